/- The contracts of billhookref04.Frame, Text. -/
import Derived.Test.YtkcehoejcklmfaaWalFns
import Derived.Test.YtkcehoejcklmfaaLaws2
namespace Go.Proofs.Ytkcehoejcklmfaa.L
open Go.RowKit O

set_option maxRecDepth 100000 in
set_option maxHeartbeats 1000000 in
theorem rframe_any (g : Nat) (b : List UInt8) (w : World) (hg : g < 4294967296) (hb : b.length ≤ 100000000) :
    Calls Try.prog 37 #[.int .u32 g, .string ⟨b.toArray⟩] w fun e w' => e = .returned (.string ⟨(frameL g b).toArray⟩) ∧ Below w.heap.size w w' := by
  have h10 := uintL_len10 b.length (by omega)
  have htl : (textL b).length ≤ 200000000 := by rw [textL_len]; omega
  have hhl : (headL g b).length ≤ 300000000 := by rw [headL_len]; omega
  have hlim : (wordL g).length + (textL b).length ≤ 9223372036854775807 := by rw [wordL_len]; omega
  have hlt := sumN_lt (headL g b)
  go_enter Try.func37, Try.ntmps37
  go_wp2_with fail
  refine wp_region_sched [(0, true), (3, true), (1, false), (2, true), (4, false), (5, true), (6, true), (7, true)] (by kernel_rfl) (by kernel_rfl) (fun _ _ d _ _ h => by cases d <;> exact h) ?_
  refine sbelow (w0 := w) ((Below.refl _ _).drew) (fun B0 => ?_)
  repeat (first | (refine sreadx rfl rfl ?_; apply Exists.intro; apply And.intro; (· (intro W hW; first | (go_simp; done) | (go_simp; with_reducible rfl) | (go_simp; rw [if_neg (by omega)]; done) | (go_simp; rw [if_neg (by omega)]; with_reducible rfl))); simp only [Act.put, List.setIfInBounds_toArray, List.set_cons_zero, List.set_cons_succ]) | (refine sskip rfl rfl ?_; simp only [Act.put, List.setIfInBounds_toArray, List.set_cons_zero, List.set_cons_succ]))
  refine scall rfl rfl (fun K hK => ?_)
  go_simp
  refine (refWord g _ hg).mono ?_; rintro e w1 ⟨A1, n1, c1, rfl, o1, b1⟩
  go_wp2_with fail
  refine hK.out _ _ (by exact b1) ?_
  clear hK K
  try simp only [Act.put, List.setIfInBounds_toArray, List.set_cons_zero, List.set_cons_succ]
  have B1 := bthen B0 b1
  clear b1
  refine swith (fun W hW => (strq (c := c1) ((Rd.of_own o1).next hW.out))) (fun q1 => ?_)
  repeat (first | (refine sreadx rfl rfl ?_; apply Exists.intro; apply And.intro; (· (intro W hW; first | (go_simp; done) | (go_simp; with_reducible rfl) | (go_simp; rw [if_neg (by omega)]; done) | (go_simp; rw [if_neg (by omega)]; with_reducible rfl))); simp only [Act.put, List.setIfInBounds_toArray, List.set_cons_zero, List.set_cons_succ]) | (refine sskip rfl rfl ?_; simp only [Act.put, List.setIfInBounds_toArray, List.set_cons_zero, List.set_cons_succ]))
  refine scall rfl rfl (fun K hK => ?_)
  go_simp
  refine (refText b _ (by omega)).mono ?_; rintro e w2 ⟨A2, n2, c2, rfl, o2, b2⟩
  go_wp2_with fail
  refine hK.out _ _ (by exact b2) ?_
  clear hK K
  try simp only [Act.put, List.setIfInBounds_toArray, List.set_cons_zero, List.set_cons_succ]
  replace q1 := fun (W : World) (hW : Grow w2 W) => q1 W (Grow.trans (b2) hW)
  have B2 := bthen B1 b2
  clear b2
  refine swith (fun W hW => (strq (c := c2) ((Rd.of_own o2).next hW.out))) (fun q2 => ?_)
  repeat (first | (refine sreadx rfl rfl ?_; apply Exists.intro; apply And.intro; (· (intro W hW; first | (go_simp; done) | (go_simp; with_reducible rfl) | (go_simp; rw [if_neg (by omega)]; done) | (go_simp; rw [if_neg (by omega)]; with_reducible rfl))); simp only [Act.put, List.setIfInBounds_toArray, List.set_cons_zero, List.set_cons_succ]) | (refine sskip rfl rfl ?_; simp only [Act.put, List.setIfInBounds_toArray, List.set_cons_zero, List.set_cons_succ]))
  refine sdone ?_
  clear q1 q2 o1 o2
  rw [ba_append, show wordL g ++ textL b = headL g b from rfl]
  go_wp2_with (refine wpList_bytes rfl (.tmp 14) rfl Try.underlying9 Try.underlying31 Try.underlying5 (headL g b) rfl ?_; intro A3 n3 c3 w3 hn3 _ hr3 hb3)
  obtain rfl := hn3
  refine (refSum_any A3 _ c3 _ _ _ hr3 (by omega)).mono ?_; rintro e w4 ⟨rfl, rfl⟩
  go_wp2_with fail
  refine (refWord (sumN (headL g b)) _ hlt).mono ?_; rintro e w5 ⟨A5, n5, c5, rfl, o5, b5⟩
  have q5 := strq (c := c5) (Rd.of_own o5)
  have hlim2 : (headL g b).length + (wordL (sumN (headL g b))).length ≤ 9223372036854775807 := by rw [wordL_len]; omega
  have B5 := bthen B2 (bthen hb3 b5)
  go_wp2_with fail
  go_ret
  rw [ba_append]
  exact ⟨rfl, B5⟩

theorem drop_getD (l : List UInt8) (i j : Nat) (h : i + j < l.length) : (l.drop i).getD j 0 = l[i + j] := by
  simp [List.getD, h]
theorem u32_word (x0 x1 x2 x3 : UInt8) :
    IntKind.u32.wrap (IntKind.u32.wrap (IntKind.u32.wrap (IntKind.u32.wrap (IntKind.u32.wrap (x0.toNat : Int) * 16777216) + IntKind.u32.wrap (IntKind.u32.wrap (x1.toNat : Int) * 65536)) +
      IntKind.u32.wrap (IntKind.u32.wrap (x2.toNat : Int) * 256)) + IntKind.u32.wrap (x3.toNat : Int)) = (((((x0.toNat * 256 + x1.toNat) * 256 + x2.toNat) * 256 + x3.toNat : Nat)) : Int) := by
  have a := x0.toNat_lt
  have b := x1.toNat_lt
  have c := x2.toNat_lt
  have d := x3.toNat_lt
  simp only [IntKind.wrap, IntKind.signed, IntKind.bits]
  simp
  omega
theorem word_at (l : List UInt8) (i : Nat) (h : i + 4 ≤ l.length) : wordTo (l.drop i) 4 = (((l[i]'(by omega)).toNat * 256 + (l[i + 1]'(by omega)).toNat) * 256 + (l[i + 2]'(by omega)).toNat) * 256 + (l[i + 3]'(by omega)).toNat := by
  rw [wordTo4, drop_getD l i 0 (by omega), drop_getD l i 1 (by omega), drop_getD l i 2 (by omega), drop_getD l i 3 (by omega)]
  rfl
theorem Rd.byteX {w : World} {B : Nat} {b off n k : Nat} {l : List UInt8} {x : UInt8} (h : Rd w B 1 (some ⟨b, off, none⟩) n (bv l)) (hk : k < l.length) (hx : l[k] = x) : w.cell? ⟨b, off + k, none⟩ = some (.int .u8 (x.toNat : Int)) := by
  subst hx
  exact h.byte hk
theorem ba_mid (l : List UInt8) (i k : Nat) : (ByteArray.mk l.toArray).extract i (i + k) = ByteArray.mk ((l.drop i).take k).toArray := by
  apply ByteArray.ext
  simp [List.extract_eq_take_drop]
/-- What the reference's Text returns. -/
def resX (l : List UInt8) (i : Nat) : Value := match frameAt l i with
  | none => .tuple #[.string ⟨#[]⟩, .int .i64 0]
  | some (_, s, k) => .tuple #[.string ⟨s.toArray⟩, .int .i64 k]

set_option maxRecDepth 100000 in
set_option maxHeartbeats 2000000 in
theorem rtext_any (l : List UInt8) (i : Nat) (w : World) (hl : l.length ≤ 10000000) (hi : i ≤ l.length) :
    Calls Try.prog 69 #[.string ⟨l.toArray⟩, .int .i64 i] w fun e w' => e = .returned (resX l i) ∧ Below w.heap.size w w' := by
  by_cases h4 : i + 4 ≤ l.length
  · go_enter Try.func69, Try.ntmps69
    go_wp2_with (refine wpList_bytesC rfl (.tmp 11) rfl Try.underlying9 Try.underlying31 Try.underlying5 l rfl (by unfold maxLen; omega) ?_; intro A1 n1 c1 w1 hn1 hnc1 hcm1 hr1 hb1; obtain rfl := hn1; have HR1 := Lib.hid hr1; clear hr1; have HB1 := Lib.hid hb1; clear hb1; have HC1 := Lib.hid hcm1; clear hcm1)
    obtain ⟨b, off, rfl, hb⟩ := HR1.out.some_ (k := i) (by omega)
    have hword := word_at l i h4
    obtain ⟨x0, e0⟩ : ∃ x : UInt8, l[i]'(by omega) = x := ⟨_, rfl⟩
    obtain ⟨x1, e1⟩ : ∃ x : UInt8, l[i + 1]'(by omega) = x := ⟨_, rfl⟩
    obtain ⟨x2, e2⟩ : ∃ x : UInt8, l[i + 2]'(by omega) = x := ⟨_, rfl⟩
    obtain ⟨x3, e3⟩ : ∃ x : UInt8, l[i + 3]'(by omega) = x := ⟨_, rfl⟩
    rw [e0, e1, e2, e3] at hword
    have X0 := Lib.hid e0; clear e0
    have X1 := Lib.hid e1; clear e1
    have X2 := Lib.hid e2; clear e2
    have X3 := Lib.hid e3; clear e3
    have Hhword := Lib.hid hword; clear hword
    have i1 : (0 : Int) ≤ (i : Int) := by omega
    have i2 : (i : Int) < (l.length : Int) := by omega
    have i3 : (i : Int) + 1 < (l.length : Int) := by omega
    have i4 : (i : Int) + 2 < (l.length : Int) := by omega
    have i5 : (i : Int) + 3 < (l.length : Int) := by omega
    have w1' : IntKind.i64.wrap ((i : Int) + 1) = (i : Int) + 1 := IntWalk.i64_in _ (by omega)
    have w2' : IntKind.i64.wrap ((i : Int) + 2) = (i : Int) + 2 := IntWalk.i64_in _ (by omega)
    have w3' : IntKind.i64.wrap ((i : Int) + 3) = (i : Int) + 3 := IntWalk.i64_in _ (by omega)
    have n1' : ((i : Int) + 1).toNat = i + 1 := by omega
    have n2' : ((i : Int) + 2).toNat = i + 2 := by omega
    have n3' : ((i : Int) + 3).toNat = i + 3 := by omega
    have p1' : (0 : Int) ≤ (i : Int) + 1 := by omega
    have p2' : (0 : Int) ≤ (i : Int) + 2 := by omega
    have p3' : (0 : Int) ≤ (i : Int) + 3 := by omega
    refine wp_region_sched [(0, true), (1, true), (2, true), (3, true), (4, true), (5, true), (6, true), (7, true), (8, true), (9, true), (10, true), (11, true), (12, true), (13, true), (14, true), (15, true), (16, true), (17, true), (18, true), (19, true), (20, true), (21, true), (22, true), (23, true), (24, true), (25, true), (26, true), (27, true), (28, true), (29, true)] (by kernel_rfl) (by kernel_rfl) (fun _ _ d _ _ h => by cases d <;> exact h) ?_
    refine sbelow (w0 := w1) ((Below.refl _ _).drew) (fun B0 => ?_)
    refine swith (fun W hW => (And.intro (Rd.byteX (HR1.out.next (bthen B0 hW.out)) (k := i) (by omega) X0.out) (And.intro (Rd.byteX (HR1.out.next (bthen B0 hW.out)) (k := i + 1) (by omega) X1.out) (And.intro (Rd.byteX (HR1.out.next (bthen B0 hW.out)) (k := i + 2) (by omega) X2.out) (Rd.byteX (HR1.out.next (bthen B0 hW.out)) (k := i + 3) (by omega) X3.out))))) (fun q => ?_)
    repeat (first | (refine sreadx rfl rfl ?_; apply Exists.intro; apply And.intro; (· (intro W hW; first | (go_simp; done) | (go_simp; with_reducible rfl) | (go_simp; rw [if_neg (by omega)]; done) | (go_simp; rw [if_neg (by omega)]; with_reducible rfl))); simp only [Act.put, List.setIfInBounds_toArray, List.set_cons_zero, List.set_cons_succ]) | (refine sskip rfl rfl ?_; simp only [Act.put, List.setIfInBounds_toArray, List.set_cons_zero, List.set_cons_succ]))
    refine sdone ?_
    rw [u32_word x0 x1 x2 x3, ← Hhword.out]
    clear Hhword X0 X1 X2 X3
    have hw1 : getWAt l (i : Int) = some (wordTo (l.drop i) 4) := by unfold getWAt; rw [if_pos ⟨by omega, by omega⟩, Int.toNat_natCast]
    have hg := wordTo_lt4 (l.drop i)
    clear q n1' n2' n3' p1' p2' p3' w1' w2' w3' i3 i4 i5
    have B1 := bthen HB1.out B0
    have R1 := HR1.out.next B0
    clear B0
    generalize wordTo (l.drop i) 4 = g at *
    have hT : ∀ s k, getTAt l ((i : Int) + 4) l.length = some (s, k) → i + 4 + k ≤ l.length ∧ k = (textL s).length ∧ (l.drop (i + 4)).take k = textL s := by
      intro s k hs
      rw [show (i : Int) + 4 = ((i + 4 : Nat) : Int) by omega] at hs
      exact (getTAt_some (by omega)).1 hs
    have hF : ∀ g s k, frameAt l (i : Int) = some (g, s, k) ↔ g < 4294967296 ∧ i + k ≤ l.length ∧ k = (frameL g s).length ∧ (l.drop i).take k = frameL g s := fun g s k => frameAt_some (by omega)
    have hF2 : ∀ s k, getTAt l ((i : Int) + 4) l.length = some (s, k) → ∀ q, frameAt l i = some q → q.1 = g ∧ q.2.1 = s := by
      intro s k hs q hq
      unfold frameAt at hq
      rw [hw1] at hq
      simp only at hq
      rw [hs] at hq
      simp only at hq
      split at hq
      · cases hq
      · split at hq
        · injection hq with hq; subst hq; exact ⟨rfl, rfl⟩
        · cases hq
    have hN : getTAt l ((i : Int) + 4) l.length = none → frameAt l i = none := by
      intro hs
      unfold frameAt
      rw [hw1]
      simp only
      rw [hs]
    have G := refGetText_any (some ⟨b, off, none⟩) l.length c1 ((i : Int) + 4) l.length l w1.drew R1 hnc1 (by omega) (by have := HC1.out; unfold maxLen at this; omega) (by omega) (by omega)
    cases hs : getTAt l ((i : Int) + 4) l.length with
    | none =>
      have hfn := hN hs
      rw [hs] at G
      clear hF2 hN hT hF hw1 hs
      have HG := Lib.hid G; clear G
      have Hhfn := Lib.hid hfn; clear hfn
      have HR1 := Lib.hid R1; clear R1
      have HB1' := Lib.hid B1; clear B1
      go_wp2_with fail
      refine (HG.out).mono ?_; rintro e w2 ⟨rfl, b2⟩
      simp only [resRT]
      go_wp2_with fail
      go_ret2
      exact ⟨by unfold resX; rw [Hhfn.out]; rfl, bthen HB1'.out b2⟩
    | some q =>
      obtain ⟨s, k⟩ := q
      rw [hs] at G
      have hfe := hF2 s k hs
      obtain ⟨t1, t2, t3⟩ := hT s k hs
      have hk0 : ((k : Int) == 0) = false := by have := textL_len s; have := uintL_pos s.length; simp; omega
      have hsl : s.length ≤ 10000000 := by have := textL_len s; omega
      have hflen := frameL_len g s
      have hpos := frameL_pos g s
      have hmid := ba_mid l i (frameL g s).length
      have hyes : (l.drop i).take (frameL g s).length = frameL g s → i + (frameL g s).length ≤ l.length → frameAt l i = some (g, s, (frameL g s).length) := fun e e2 => (hF g s _).2 ⟨hg, e2, rfl, e⟩
      have hno : ¬ ((l.drop i).take (frameL g s).length = frameL g s ∧ i + (frameL g s).length ≤ l.length) → frameAt l i = none := by
        intro hn
        cases hq : frameAt l i with
        | none => rfl
        | some q =>
          obtain ⟨g', s', k'⟩ := q
          obtain ⟨e1, e2⟩ := hfe _ hq
          simp only at e1 e2
          subst e1 e2
          obtain ⟨_, f2, f3, f4⟩ := (hF _ _ _).1 hq
          subst f3
          exact absurd ⟨f4, f2⟩ hn
      generalize hfl : frameL g s = f at *
      have HFL := Lib.hid hfl; clear hfl
      clear hF2 hN hT hF hw1 hs hfe t1 t2 t3 hflen
      by_cases hle : i + f.length ≤ l.length
      · by_cases heq : (l.drop i).take f.length = f
        · have hres := hyes heq hle
          rw [heq] at hmid
          clear hyes hno heq
          have HG := Lib.hid G; clear G
          have HR1 := Lib.hid R1; clear R1
          have Hhres := Lib.hid hres; clear hres
          have HB1' := Lib.hid B1; clear B1
          go_wp2_with fail
          refine (HG.out).mono ?_; rintro e w2 ⟨rfl, b2⟩
          simp only [resRT]
          go_wp2_with fail
          refine (rframe_any g s _ hg (by omega)).mono ?_; rintro e w3 ⟨rfl, b3⟩
          rw [HFL.out]
          go_wp2_with fail
          go_ret2
          exact ⟨by unfold resX; rw [Hhres.out]; rfl, bthen HB1'.out (bthen b2 b3)⟩
        · have hres := hno (fun e => heq e.1)
          have hne : ((l.drop i).take f.length == f) = false := by rw [beq_eq_false_iff_ne]; exact heq
          clear hyes hno heq
          have HG := Lib.hid G; clear G
          have HR1 := Lib.hid R1; clear R1
          have Hhres := Lib.hid hres; clear hres
          have HB1' := Lib.hid B1; clear B1
          go_wp2_with fail
          refine (HG.out).mono ?_; rintro e w2 ⟨rfl, b2⟩
          simp only [resRT]
          go_wp2_with fail
          refine (rframe_any g s _ hg (by omega)).mono ?_; rintro e w3 ⟨rfl, b3⟩
          rw [HFL.out]
          go_wp2_with fail
          go_ret2
          exact ⟨by unfold resX; rw [Hhres.out]; rfl, bthen HB1'.out (bthen b2 b3)⟩
      · have hres := hno (fun e => hle e.2)
        clear hyes hno hmid
        have HG := Lib.hid G; clear G
        have HR1 := Lib.hid R1; clear R1
        have Hhres := Lib.hid hres; clear hres
        have HB1' := Lib.hid B1; clear B1
        go_wp2_with fail
        refine (HG.out).mono ?_; rintro e w2 ⟨rfl, b2⟩
        simp only [resRT]
        go_wp2_with fail
        refine (rframe_any g s _ hg (by omega)).mono ?_; rintro e w3 ⟨rfl, b3⟩
        rw [HFL.out]
        go_wp2_with fail
        go_ret2
        exact ⟨by unfold resX; rw [Hhres.out]; rfl, bthen HB1'.out (bthen b2 b3)⟩
  · have hfn : frameAt l i = none := by unfold frameAt getWAt; rw [if_neg (by omega)]
    have hlt : (l.length : Int) - 4 < (i : Int) := by omega
    have Hhfn := Lib.hid hfn; clear hfn
    go_enter Try.func69, Try.ntmps69
    go_wp2_with (refine wpList_bytesC rfl (.tmp 11) rfl Try.underlying9 Try.underlying31 Try.underlying5 l rfl (by unfold maxLen; omega) ?_; intro A1 n1 c1 w1 hn1 hnc1 hcm1 hr1 hb1; obtain rfl := hn1; have HR1 := Lib.hid hr1; clear hr1; have HB1 := Lib.hid hb1; clear hb1)
    go_ret2
    exact ⟨by unfold resX; rw [Hhfn.out]; rfl, HB1.out⟩
end Go.Proofs.Ytkcehoejcklmfaa.L
