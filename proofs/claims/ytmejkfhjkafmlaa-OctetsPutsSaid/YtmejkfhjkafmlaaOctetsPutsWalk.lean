/- OctetsPuts' walk. -/
import Derived.Test.YtmejkfhjkafmlaaOctSum
import Derived.Test.YtmejkfhjkafmlaaOctRef
import Derived.Test.YtmejkfhjkafmlaaSched
import Derived.Test.YtmejkfhjkafmlaaOpen
namespace Go.Proofs.Ytmejkfhjkafmlaa.octetsPuts
open Go.RowKit O

set_option maxRecDepth 100000 in
set_option maxHeartbeats 4000000 in
theorem walk (A : Option Addr) (n c : Nat) (l0 : List UInt8) (u0 x : Int) (w : World) (h0 : IsB w A n c l0) (hu0 : (Lit.int .u64 u0).wf = true) (hx : (Lit.int .i64 x).wf = true) :
    Calls Try.prog 6 #[.slice A n c, .int .u64 u0, .int .i64 x] w fun e w' => e = .returned (.bool true) ∧ Below w.heap.size w w' := by
  obtain ⟨h, hnc, hcm⟩ := h0
  unfold maxLen at hcm
  obtain ⟨hu1, hu2⟩ := bounds_u64 hu0
  obtain ⟨hx1, hx2⟩ := bounds_i64 hx
  obtain ⟨u, rfl⟩ := Int.eq_ofNat_of_zero_le hu1
  clear hu0 hx hu1
  go_enter Try.func6, Try.ntmps6
  go_wp2_with fail
  refine (cut_any A n c l0 w h hnc hcm).mono ?_; rintro e w1 ⟨m, c', rfl, hm, hmc, hr, rfl⟩
  generalize l0.take 300 = l at hr
  have hl : l.length = m := by have := hr.1; simp at this; omega
  have hl3 : l.length ≤ 300 := by omega
  clear h hnc hcm hl
  have q0 := strq (c := c') hr
  go_wp2_with fail
  clear q0
  have hr : Rd w.drew w.drew.heap.size 1 A m (bv l) := hr.drew
  have g0 := Grow.refl w.drew
  have hu10 := uintL_len10 u (by omega)
  have hz10 := uintL_len10 (zig x) (zig_lt x hx1 hx2)
  have ht10 : (textL l).length ≤ 310 := by have := uintL_len10 l.length (by omega); simp [textL]; omega
  have hw4 : (wordL (u % 4294967296)).length = 4 := rfl
  -- REGION
  refine wp_region_sched [(0, true), (1, true), (4, true), (5, true), (2, false), (3, true), (6, false), (7, true), (8, true), (9, true), (10, true), (11, true), (12, true), (15, true), (16, true), (13, false), (14, true), (17, false), (18, true), (19, true), (20, true), (21, true), (22, true), (23, true), (24, true), (27, true), (28, true), (25, false), (26, true), (29, false), (30, true), (31, true), (32, true), (33, true), (34, true), (35, true), (36, true), (39, true), (40, true), (37, false), (38, true), (41, false), (42, true), (43, true), (44, true), (45, true), (46, true), (47, true), (48, true), (49, true), (50, true), (51, true), (52, true), (53, true), (55, true), (54, false), (56, false), (57, true), (58, true), (59, true), (60, true), (61, false), (62, true), (63, true)] (by kernel_rfl) (by kernel_rfl) (fun _ _ d _ _ h => by cases d <;> exact h) ?_
  refine sread (v := ?vs0) rfl rfl ?hs0 ?rs0
  case hs0 => (intro W hW; first | (go_simp; done) | (go_simp; with_reducible rfl))
  simp only [Act.put, List.setIfInBounds_toArray, List.set_cons_zero, List.set_cons_succ]
  refine sread (v := ?vs1) rfl rfl ?hs1 ?rs1
  case hs1 => (intro W hW; first | (go_simp; done) | (go_simp; with_reducible rfl))
  simp only [Act.put, List.setIfInBounds_toArray, List.set_cons_zero, List.set_cons_succ]
  refine sread (v := ?vs4) rfl rfl ?hs4 ?rs4
  case hs4 => (intro W hW; first | (go_simp; done) | (go_simp; with_reducible rfl))
  simp only [Act.put, List.setIfInBounds_toArray, List.set_cons_zero, List.set_cons_succ]
  refine sread (v := ?vs5) rfl rfl ?hs5 ?rs5
  case hs5 => (intro W hW; first | (go_simp; done) | (go_simp; with_reducible rfl))
  simp only [Act.put, List.setIfInBounds_toArray, List.set_cons_zero, List.set_cons_succ]
  refine scall rfl rfl (fun K hK => ?_)
  go_simp
  refine (putUint_any A m c' u l _ (hr.next g0.out) (by omega) (by omega)).mono ?_; rintro e w1 ⟨A1, n1, c1, rfl, o1, b1⟩
  go_wp2_with fail
  refine hK.out _ _ ?gs2 ?ks2
  case gs2 => exact b1
  clear hK K
  try simp only [Act.put, List.setIfInBounds_toArray, List.set_cons_zero, List.set_cons_succ]
  have r1 := Rd.of_own o1; have g1 := g0.trans b1; clear o1 b1
  refine sread (v := ?vs3) rfl rfl ?hs3 ?rs3
  case hs3 => (intro W hW; have q := strq (c := c1) (r1.next hW.out); go_simp; with_reducible rfl)
  simp only [Act.put, List.setIfInBounds_toArray, List.set_cons_zero, List.set_cons_succ]
  refine scall rfl rfl (fun K hK => ?_)
  go_simp
  refine (refUint u _ (by omega)).mono ?_; rintro e w2 ⟨A2, n2, c2, rfl, o2, b2⟩
  go_wp2_with fail
  refine hK.out _ _ ?gs6 ?ks6
  case gs6 => exact b2
  clear hK K
  try simp only [Act.put, List.setIfInBounds_toArray, List.set_cons_zero, List.set_cons_succ]
  have r2 := Rd.of_own o2; have g2 := g1.trans b2; clear o2 b2
  refine sread (v := ?vs7) rfl rfl ?hs7 ?rs7
  case hs7 => (intro W hW; have q := strq (c := c2) (r2.next hW.out); go_simp; with_reducible rfl)
  simp only [Act.put, List.setIfInBounds_toArray, List.set_cons_zero, List.set_cons_succ]
  refine sread (v := .string ⟨(l ++ uintL u).toArray⟩) rfl rfl ?hs8 ?rs8
  case hs8 => (intro W hW; go_simp; rw [if_neg (by omega), ba_append])
  simp only [Act.put, List.setIfInBounds_toArray, List.set_cons_zero, List.set_cons_succ]
  refine sread (v := ?vs9) rfl rfl ?hs9 ?rs9
  case hs9 => (intro W hW; first | (go_simp; done) | (go_simp; with_reducible rfl))
  simp only [Act.put, List.setIfInBounds_toArray, List.set_cons_zero, List.set_cons_succ]
  refine sread (v := ?vs10) rfl rfl ?hs10 ?rs10
  case hs10 => (intro W hW; first | (go_simp; done) | (go_simp; with_reducible rfl))
  simp only [Act.put, List.setIfInBounds_toArray, List.set_cons_zero, List.set_cons_succ]
  refine sread (v := ?vs11) rfl rfl ?hs11 ?rs11
  case hs11 => (intro W hW; first | (go_simp; done) | (go_simp; with_reducible rfl))
  simp only [Act.put, List.setIfInBounds_toArray, List.set_cons_zero, List.set_cons_succ]
  refine sread (v := ?vs12) rfl rfl ?hs12 ?rs12
  case hs12 => (intro W hW; first | (go_simp; done) | (go_simp; with_reducible rfl))
  simp only [Act.put, List.setIfInBounds_toArray, List.set_cons_zero, List.set_cons_succ]
  refine sread (v := ?vs15) rfl rfl ?hs15 ?rs15
  case hs15 => (intro W hW; first | (go_simp; done) | (go_simp; with_reducible rfl))
  simp only [Act.put, List.setIfInBounds_toArray, List.set_cons_zero, List.set_cons_succ]
  refine sread (v := ?vs16) rfl rfl ?hs16 ?rs16
  case hs16 => (intro W hW; first | (go_simp; done) | (go_simp; with_reducible rfl))
  simp only [Act.put, List.setIfInBounds_toArray, List.set_cons_zero, List.set_cons_succ]
  refine scall rfl rfl (fun K hK => ?_)
  go_simp
  refine (putInt_any A m c' x l _ (hr.next g2.out) (by omega) hx1 hx2).mono ?_; rintro e w3 ⟨A3, n3, c3, rfl, o3, b3⟩
  go_wp2_with fail
  refine hK.out _ _ ?gs13 ?ks13
  case gs13 => exact b3
  clear hK K
  try simp only [Act.put, List.setIfInBounds_toArray, List.set_cons_zero, List.set_cons_succ]
  have r3 := Rd.of_own o3; have g3 := g2.trans b3; clear o3 b3
  refine sread (v := ?vs14) rfl rfl ?hs14 ?rs14
  case hs14 => (intro W hW; have q := strq (c := c3) (r3.next hW.out); go_simp; with_reducible rfl)
  simp only [Act.put, List.setIfInBounds_toArray, List.set_cons_zero, List.set_cons_succ]
  refine scall rfl rfl (fun K hK => ?_)
  go_simp
  refine (refInt x _ hx1 hx2).mono ?_; rintro e w4 ⟨A4, n4, c4, rfl, o4, b4⟩
  go_wp2_with fail
  refine hK.out _ _ ?gs17 ?ks17
  case gs17 => exact b4
  clear hK K
  try simp only [Act.put, List.setIfInBounds_toArray, List.set_cons_zero, List.set_cons_succ]
  have r4 := Rd.of_own o4; have g4 := g3.trans b4; clear o4 b4
  refine sread (v := ?vs18) rfl rfl ?hs18 ?rs18
  case hs18 => (intro W hW; have q := strq (c := c4) (r4.next hW.out); go_simp; with_reducible rfl)
  simp only [Act.put, List.setIfInBounds_toArray, List.set_cons_zero, List.set_cons_succ]
  refine sread (v := .string ⟨(l ++ uintL (zig x)).toArray⟩) rfl rfl ?hs19 ?rs19
  case hs19 => (intro W hW; go_simp; rw [if_neg (by omega), ba_append])
  simp only [Act.put, List.setIfInBounds_toArray, List.set_cons_zero, List.set_cons_succ]
  refine sread (v := ?vs20) rfl rfl ?hs20 ?rs20
  case hs20 => (intro W hW; first | (go_simp; done) | (go_simp; with_reducible rfl))
  simp only [Act.put, List.setIfInBounds_toArray, List.set_cons_zero, List.set_cons_succ]
  refine sread (v := ?vs21) rfl rfl ?hs21 ?rs21
  case hs21 => (intro W hW; first | (go_simp; done) | (go_simp; with_reducible rfl))
  simp only [Act.put, List.setIfInBounds_toArray, List.set_cons_zero, List.set_cons_succ]
  refine sread (v := ?vs22) rfl rfl ?hs22 ?rs22
  case hs22 => (intro W hW; first | (go_simp; done) | (go_simp; with_reducible rfl))
  simp only [Act.put, List.setIfInBounds_toArray, List.set_cons_zero, List.set_cons_succ]
  refine sread (v := ?vs23) rfl rfl ?hs23 ?rs23
  case hs23 => (intro W hW; first | (go_simp; done) | (go_simp; with_reducible rfl))
  simp only [Act.put, List.setIfInBounds_toArray, List.set_cons_zero, List.set_cons_succ]
  refine sread (v := ?vs24) rfl rfl ?hs24 ?rs24
  case hs24 => (intro W hW; first | (go_simp; done) | (go_simp; with_reducible rfl))
  simp only [Act.put, List.setIfInBounds_toArray, List.set_cons_zero, List.set_cons_succ]
  refine sread (v := ?vs27) rfl rfl ?hs27 ?rs27
  case hs27 => (intro W hW; first | (go_simp; done) | (go_simp; with_reducible rfl))
  simp only [Act.put, List.setIfInBounds_toArray, List.set_cons_zero, List.set_cons_succ]
  refine sread (v := ?vs28) rfl rfl ?hs28 ?rs28
  case hs28 => (intro W hW; first | (go_simp; done) | (go_simp; with_reducible rfl))
  simp only [Act.put, List.setIfInBounds_toArray, List.set_cons_zero, List.set_cons_succ]
  refine scall rfl rfl (fun K hK => ?_)
  go_simp
  refine (putText_any A m c' l l _ (hr.next g4.out) (by omega)).mono ?_; rintro e w5 ⟨A5, n5, c5, rfl, o5, b5⟩
  go_wp2_with fail
  refine hK.out _ _ ?gs25 ?ks25
  case gs25 => exact b5
  clear hK K
  try simp only [Act.put, List.setIfInBounds_toArray, List.set_cons_zero, List.set_cons_succ]
  have r5 := Rd.of_own o5; have g5 := g4.trans b5; clear o5 b5
  refine sread (v := ?vs26) rfl rfl ?hs26 ?rs26
  case hs26 => (intro W hW; have q := strq (c := c5) (r5.next hW.out); go_simp; with_reducible rfl)
  simp only [Act.put, List.setIfInBounds_toArray, List.set_cons_zero, List.set_cons_succ]
  refine scall rfl rfl (fun K hK => ?_)
  go_simp
  refine (refText l _ (by omega)).mono ?_; rintro e w6 ⟨A6, n6, c6, rfl, o6, b6⟩
  go_wp2_with fail
  refine hK.out _ _ ?gs29 ?ks29
  case gs29 => exact b6
  clear hK K
  try simp only [Act.put, List.setIfInBounds_toArray, List.set_cons_zero, List.set_cons_succ]
  have r6 := Rd.of_own o6; have g6 := g5.trans b6; clear o6 b6
  refine sread (v := ?vs30) rfl rfl ?hs30 ?rs30
  case hs30 => (intro W hW; have q := strq (c := c6) (r6.next hW.out); go_simp; with_reducible rfl)
  simp only [Act.put, List.setIfInBounds_toArray, List.set_cons_zero, List.set_cons_succ]
  refine sread (v := .string ⟨(l ++ textL l).toArray⟩) rfl rfl ?hs31 ?rs31
  case hs31 => (intro W hW; go_simp; rw [if_neg (by omega), ba_append])
  simp only [Act.put, List.setIfInBounds_toArray, List.set_cons_zero, List.set_cons_succ]
  refine sread (v := ?vs32) rfl rfl ?hs32 ?rs32
  case hs32 => (intro W hW; first | (go_simp; done) | (go_simp; with_reducible rfl))
  simp only [Act.put, List.setIfInBounds_toArray, List.set_cons_zero, List.set_cons_succ]
  refine sread (v := ?vs33) rfl rfl ?hs33 ?rs33
  case hs33 => (intro W hW; first | (go_simp; done) | (go_simp; with_reducible rfl))
  simp only [Act.put, List.setIfInBounds_toArray, List.set_cons_zero, List.set_cons_succ]
  refine sread (v := ?vs34) rfl rfl ?hs34 ?rs34
  case hs34 => (intro W hW; first | (go_simp; done) | (go_simp; with_reducible rfl))
  simp only [Act.put, List.setIfInBounds_toArray, List.set_cons_zero, List.set_cons_succ]
  refine sread (v := ?vs35) rfl rfl ?hs35 ?rs35
  case hs35 => (intro W hW; first | (go_simp; done) | (go_simp; with_reducible rfl))
  simp only [Act.put, List.setIfInBounds_toArray, List.set_cons_zero, List.set_cons_succ]
  refine sread (v := ?vs36) rfl rfl ?hs36 ?rs36
  case hs36 => (intro W hW; first | (go_simp; done) | (go_simp; with_reducible rfl))
  simp only [Act.put, List.setIfInBounds_toArray, List.set_cons_zero, List.set_cons_succ]
  refine sread (v := ?vs39) rfl rfl ?hs39 ?rs39
  case hs39 => (intro W hW; first | (go_simp; done) | (go_simp; with_reducible rfl))
  simp only [Act.put, List.setIfInBounds_toArray, List.set_cons_zero, List.set_cons_succ]
  refine sread (v := ?vs40) rfl rfl ?hs40 ?rs40
  case hs40 => (intro W hW; first | (go_simp; done) | (go_simp; with_reducible rfl))
  simp only [Act.put, List.setIfInBounds_toArray, List.set_cons_zero, List.set_cons_succ]
  refine scall rfl rfl (fun K hK => ?_)
  go_simp
  refine (putWord_any A m c' (u % 4294967296) l _ (hr.next g6.out) (by omega) (by omega)).mono ?_; rintro e w7 ⟨A7, n7, c7, rfl, o7, b7⟩
  go_wp2_with fail
  refine hK.out _ _ ?gs37 ?ks37
  case gs37 => exact b7
  clear hK K
  try simp only [Act.put, List.setIfInBounds_toArray, List.set_cons_zero, List.set_cons_succ]
  have r7 := Rd.of_own o7; have g7 := g6.trans b7; clear o7 b7
  refine sread (v := ?vs38) rfl rfl ?hs38 ?rs38
  case hs38 => (intro W hW; have q := strq (c := c7) (r7.next hW.out); go_simp; with_reducible rfl)
  simp only [Act.put, List.setIfInBounds_toArray, List.set_cons_zero, List.set_cons_succ]
  refine scall rfl rfl (fun K hK => ?_)
  go_simp
  refine (refWord (u % 4294967296) _ (by omega)).mono ?_; rintro e w8 ⟨A8, n8, c8, rfl, o8, b8⟩
  go_wp2_with fail
  refine hK.out _ _ ?gs41 ?ks41
  case gs41 => exact b8
  clear hK K
  try simp only [Act.put, List.setIfInBounds_toArray, List.set_cons_zero, List.set_cons_succ]
  have r8 := Rd.of_own o8; have g8 := g7.trans b8; clear o8 b8
  refine sread (v := ?vs42) rfl rfl ?hs42 ?rs42
  case hs42 => (intro W hW; have q := strq (c := c8) (r8.next hW.out); go_simp; with_reducible rfl)
  simp only [Act.put, List.setIfInBounds_toArray, List.set_cons_zero, List.set_cons_succ]
  refine sread (v := .string ⟨(l ++ wordL (u % 4294967296)).toArray⟩) rfl rfl ?hs43 ?rs43
  case hs43 => (intro W hW; go_simp; rw [if_neg (by omega), ba_append])
  simp only [Act.put, List.setIfInBounds_toArray, List.set_cons_zero, List.set_cons_succ]
  refine sread (v := ?vs44) rfl rfl ?hs44 ?rs44
  case hs44 => (intro W hW; first | (go_simp; done) | (go_simp; with_reducible rfl))
  simp only [Act.put, List.setIfInBounds_toArray, List.set_cons_zero, List.set_cons_succ]
  refine sread (v := ?vs45) rfl rfl ?hs45 ?rs45
  case hs45 => (intro W hW; first | (go_simp; done) | (go_simp; with_reducible rfl))
  simp only [Act.put, List.setIfInBounds_toArray, List.set_cons_zero, List.set_cons_succ]
  refine sread (v := ?vs46) rfl rfl ?hs46 ?rs46
  case hs46 => (intro W hW; first | (go_simp; done) | (go_simp; with_reducible rfl))
  simp only [Act.put, List.setIfInBounds_toArray, List.set_cons_zero, List.set_cons_succ]
  refine sread (v := ?vs47) rfl rfl ?hs47 ?rs47
  case hs47 => (intro W hW; first | (go_simp; done) | (go_simp; with_reducible rfl))
  simp only [Act.put, List.setIfInBounds_toArray, List.set_cons_zero, List.set_cons_succ]
  refine sread (v := ?vs48) rfl rfl ?hs48 ?rs48
  case hs48 => (intro W hW; have q := strq (c := c') (hr.next (g8.trans hW).out); go_simp; with_reducible rfl)
  simp only [Act.put, List.setIfInBounds_toArray, List.set_cons_zero, List.set_cons_succ]
  refine sread (v := ?vs49) rfl rfl ?hs49 ?rs49
  case hs49 => (intro W hW; first | (go_simp; done) | (go_simp; with_reducible rfl))
  simp only [Act.put, List.setIfInBounds_toArray, List.set_cons_zero, List.set_cons_succ]
  refine sread (v := ?vs50) rfl rfl ?hs50 ?rs50
  case hs50 => (intro W hW; first | (go_simp; done) | (go_simp; with_reducible rfl))
  simp only [Act.put, List.setIfInBounds_toArray, List.set_cons_zero, List.set_cons_succ]
  refine sread (v := ?vs51) rfl rfl ?hs51 ?rs51
  case hs51 => (intro W hW; first | (go_simp; done) | (go_simp; with_reducible rfl))
  simp only [Act.put, List.setIfInBounds_toArray, List.set_cons_zero, List.set_cons_succ]
  refine sread (v := ?vs52) rfl rfl ?hs52 ?rs52
  case hs52 => (intro W hW; first | (go_simp; done) | (go_simp; with_reducible rfl))
  simp only [Act.put, List.setIfInBounds_toArray, List.set_cons_zero, List.set_cons_succ]
  refine sread (v := ?vs53) rfl rfl ?hs53 ?rs53
  case hs53 => (intro W hW; first | (go_simp; done) | (go_simp; with_reducible rfl))
  simp only [Act.put, List.setIfInBounds_toArray, List.set_cons_zero, List.set_cons_succ]
  refine sread (v := ?vs55) rfl rfl ?hs55 ?rs55
  case hs55 => (intro W hW; first | (go_simp; done) | (go_simp; with_reducible rfl))
  simp only [Act.put, List.setIfInBounds_toArray, List.set_cons_zero, List.set_cons_succ]
  refine scall rfl rfl (fun K hK => ?_)
  go_simp
  refine (size_any u _ (by omega)).mono ?_; rintro e w' ⟨rfl, rfl⟩
  go_wp2_with fail
  refine hK.out _ _ ?gs54 ?ks54
  case gs54 => exact Grow.refl _
  clear hK K
  try simp only [Act.put, List.setIfInBounds_toArray, List.set_cons_zero, List.set_cons_succ]
  refine scall rfl rfl (fun K hK => ?_)
  go_simp
  refine (refUint u _ (by omega)).mono ?_; rintro e w9 ⟨A9, n9, c9, rfl, o9, b9⟩
  go_wp2_with fail
  refine hK.out _ _ ?gs56 ?ks56
  case gs56 => exact b9
  clear hK K
  try simp only [Act.put, List.setIfInBounds_toArray, List.set_cons_zero, List.set_cons_succ]
  have hl9 := own_len o9; have e9 : sizeN u = n9 := by rw [sizeN_eq u (by omega), hl9]
  have g9 := g8.trans b9; subst e9; clear o9 b9 hl9
  refine sread (v := ?vs57) rfl rfl ?hs57 ?rs57
  case hs57 => (intro W hW; first | (go_simp; done) | (go_simp; with_reducible rfl))
  simp only [Act.put, List.setIfInBounds_toArray, List.set_cons_zero, List.set_cons_succ]
  refine sread (v := ?vs58) rfl rfl ?hs58 ?rs58
  case hs58 => (intro W hW; first | (go_simp; done) | (go_simp; with_reducible rfl))
  simp only [Act.put, List.setIfInBounds_toArray, List.set_cons_zero, List.set_cons_succ]
  refine sread (v := ?vs59) rfl rfl ?hs59 ?rs59
  case hs59 => (intro W hW; first | (go_simp; done) | (go_simp; with_reducible rfl))
  simp only [Act.put, List.setIfInBounds_toArray, List.set_cons_zero, List.set_cons_succ]
  refine sread (v := ?vs60) rfl rfl ?hs60 ?rs60
  case hs60 => (intro W hW; first | (go_simp; done) | (go_simp; with_reducible rfl))
  simp only [Act.put, List.setIfInBounds_toArray, List.set_cons_zero, List.set_cons_succ]
  refine scall rfl rfl (fun K hK => ?_)
  go_simp
  refine (lives_any _).mono ?_; rintro e w10 ⟨rfl, b10⟩
  go_wp2_with fail
  refine hK.out _ _ ?gs61 ?ks61
  case gs61 => exact b10
  clear hK K
  try simp only [Act.put, List.setIfInBounds_toArray, List.set_cons_zero, List.set_cons_succ]
  refine sread (v := ?vs62) rfl rfl ?hs62 ?rs62
  case hs62 => (intro W hW; first | (go_simp; done) | (go_simp; with_reducible rfl))
  simp only [Act.put, List.setIfInBounds_toArray, List.set_cons_zero, List.set_cons_succ]
  refine sread (v := ?vs63) rfl rfl ?hs63 ?rs63
  case hs63 => (intro W hW; first | (go_simp; done) | (go_simp; with_reducible rfl))
  simp only [Act.put, List.setIfInBounds_toArray, List.set_cons_zero, List.set_cons_succ]
  refine sdone ?_
  go_wp2_with fail
  go_ret
  exact ⟨rfl, (Below.refl _ _).drew.trans ((g9.trans b10).out.mono (Nat.le_refl _))⟩
end Go.Proofs.Ytmejkfhjkafmlaa.octetsPuts
