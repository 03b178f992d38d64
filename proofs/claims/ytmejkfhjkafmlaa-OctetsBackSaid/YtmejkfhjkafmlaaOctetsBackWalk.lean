/- OctetsBack's walk. -/
import Derived.Test.YtmejkfhjkafmlaaOctGet2
import Derived.Test.YtmejkfhjkafmlaaOctSum
import Derived.Test.YtmejkfhjkafmlaaSched
import Derived.Test.YtmejkfhjkafmlaaOpen
namespace Go.Proofs.Ytmejkfhjkafmlaa.octetsBack
open Go.RowKit O

theorem own_cap {w : World} {base e size n c : Nat} {A : Option Addr} {xs : List Value} (h : w.ownsRow base e size (.slice A n c) n xs) : n ≤ c ∧ c ≤ 9223372036854775807 := by
  rcases h.2 with ⟨h1, h2⟩ | ⟨g, cap, cur, h1, _, _, h2, h3, _⟩
  · injection h1 with _ _ h3
    subst h2 h3
    exact ⟨Nat.le_refl _, Nat.zero_le _⟩
  · injection h1 with _ _ h4
    subst h4
    exact ⟨h2, h3⟩
/-- What is put behind any bytes is got there. -/
theorem getUAt_put (a r : List UInt8) (n : Nat) (x : Int) (hx : x = a.length) (h : n < 18446744073709551616) : getUAt (a ++ (uintL n ++ r)) x = some (n, (uintL n).length) := by
  subst hx
  rw [getUAt, if_pos (by simp; omega), Int.toNat_natCast, List.drop_left]
  exact getU_put n r h
theorem getTAt_put (a s : List UInt8) (x : Int) (hx : x = a.length) (h : s.length ≤ 300) : getTAt (a ++ textL s) x 300 = some (s, (uintL s.length).length + s.length) := by
  have hu := getUAt_put a s s.length x hx (by omega)
  subst hx
  rw [getTAt, textL, hu]
  simp only
  rw [if_neg (by simp; omega), Int.toNat_natCast, ← List.append_assoc, List.drop_left' (by simp), List.take_length]

set_option maxRecDepth 100000 in
set_option maxHeartbeats 8000000 in
theorem walk (A : Option Addr) (n c : Nat) (l0 : List UInt8) (u0 x : Int) (w : World) (h0 : IsB w A n c l0) (hu0 : (Lit.int .u64 u0).wf = true) (hx : (Lit.int .i64 x).wf = true) :
    Calls Try.prog 11 #[.slice A n c, .int .u64 u0, .int .i64 x] w fun e w' => e = .returned (.bool true) ∧ Below w.heap.size w w' := by
  obtain ⟨h, hnc, hcm⟩ := h0
  unfold maxLen at hcm
  obtain ⟨hu1, hu2⟩ := bounds_u64 hu0
  obtain ⟨hx1, hx2⟩ := bounds_i64 hx
  obtain ⟨u, rfl⟩ := Int.eq_ofNat_of_zero_le hu1
  have hu3 : u < 18446744073709551616 := by omega
  clear hu0 hx hu1 hu2
  go_enter Try.func11, Try.ntmps11
  go_wp2_with fail
  refine (cut_any A n c l0 w h hnc hcm).mono ?_; rintro e w1 ⟨m, c', rfl, hm, hmc, hcx, hr, rfl⟩
  generalize l0.take 300 = l at hr
  have hl : l.length = m := by have := hr.1; simp at this; omega
  clear h hnc hcm
  have hu10 := uintL_len10 u hu3
  have hz10 := uintL_len10 (zig x) (zig_lt x hx1 hx2)
  obtain ⟨y, hy⟩ : ∃ y : Nat, (u : Int) % 301 = y := ⟨u % 301, by simp⟩
  have hy3 : y ≤ 300 := by omega
  have HL := Lib.hid hl
  clear hl
  have hl1 : l.length ≤ m := by have := HL.out; omega
  have hl2 : m ≤ l.length := by have := HL.out; omega
  go_wp2_with fail
  refine wp_region_sched [(0, true), (1, true), (3, true), (5, true), (6, true), (2, false), (4, false), (7, false), (8, true)] (by kernel_rfl) (by kernel_rfl) (fun _ _ d _ _ h => by cases d <;> exact h) ?_
  refine sread (v := ?va0) rfl rfl ?ha0 ?ra0
  case ha0 => (intro W hW; first | (go_simp; done) | (go_simp; with_reducible rfl))
  simp only [Act.put, List.setIfInBounds_toArray, List.set_cons_zero, List.set_cons_succ]
  refine sread (v := ?va1) rfl rfl ?ha1 ?ra1
  case ha1 => (intro W hW; first | (go_simp; done) | (go_simp; with_reducible rfl))
  simp only [Act.put, List.setIfInBounds_toArray, List.set_cons_zero, List.set_cons_succ]
  refine sread (v := ?va3) rfl rfl ?ha3 ?ra3
  case ha3 => (intro W hW; first | (go_simp; done) | (go_simp; with_reducible rfl))
  simp only [Act.put, List.setIfInBounds_toArray, List.set_cons_zero, List.set_cons_succ]
  refine sread (v := ?va5) rfl rfl ?ha5 ?ra5
  case ha5 => (intro W hW; first | (go_simp; done) | (go_simp; with_reducible rfl))
  simp only [Act.put, List.setIfInBounds_toArray, List.set_cons_zero, List.set_cons_succ]
  refine sread (v := ?va6) rfl rfl ?ha6 ?ra6
  case ha6 => (intro W hW; have q := strq (c := c') (hr.drew.below (hW.out.mono (Nat.le_refl _))); go_simp; with_reducible rfl)
  simp only [Act.put, List.setIfInBounds_toArray, List.set_cons_zero, List.set_cons_succ]
  refine scall rfl rfl (fun K hK => ?_)
  go_simp
  refine (putUint_any A m c' u l _ hr.drew (by omega) (by omega)).mono ?_; rintro e w1 ⟨A1, n1, c1, rfl, o1, b1⟩
  go_wp2_with fail
  refine hK.out _ _ ?ga2 ?ka2
  case ga2 => exact b1
  clear hK K
  try simp only [Act.put, List.setIfInBounds_toArray, List.set_cons_zero, List.set_cons_succ]
  have r1 := Rd.of_own o1; have hn1 := own_len o1
  clear o1; simp at hn1
  refine scall rfl rfl (fun K hK => ?_)
  go_simp
  refine (putInt_any A1 n1 c1 x (l ++ uintL u) _ r1 (by omega) hx1 hx2).mono ?_; rintro e w2 ⟨A2, n2, c2, rfl, o2, b2⟩
  go_wp2_with fail
  refine hK.out _ _ ?ga4 ?ka4
  case ga4 => exact b2
  clear hK K
  try simp only [Act.put, List.setIfInBounds_toArray, List.set_cons_zero, List.set_cons_succ]
  have r2 := Rd.of_own o2; have hn2 := own_len o2
  have g12 := bthen b1 b2; clear o2 b1 b2 r1; simp at hn2
  refine scall rfl rfl (fun K hK => ?_)
  go_simp
  refine (putText_any A2 n2 c2 (l ++ uintL u ++ uintL (zig x)) l _ r2 (by omega)).mono ?_; rintro e w3 ⟨A3, n3, c3, rfl, o3, b3⟩
  go_wp2_with fail
  refine hK.out _ _ ?ga7 ?ka7
  case ga7 => exact b3
  clear hK K
  try simp only [Act.put, List.setIfInBounds_toArray, List.set_cons_zero, List.set_cons_succ]
  have g13 := bthen g12 b3; have hcap := own_cap o3; have hn3 := own_len o3; have r3 := Rd.of_own o3; clear o3 r2 g12 b3
  refine sread (v := ?va8) rfl rfl ?ha8 ?ra8
  case ha8 => (intro W hW; first | (go_simp; done) | (go_simp; with_reducible rfl))
  simp only [Act.put, List.setIfInBounds_toArray, List.set_cons_zero, List.set_cons_succ]
  refine sdone ?_
  obtain ⟨hcap1, hcap2⟩ := hcap
  have e1 := getUAt_put l (uintL (zig x) ++ textL l) u (m : Int) (by have := HL.out; omega) hu3
  have e2 := getUAt_put (l ++ uintL u) (textL l) (zig x) ((m : Int) + (uintL u).length) (by have := HL.out; simp; omega) (zig_lt x hx1 hx2)
  have e3 := getTAt_put (l ++ uintL u ++ uintL (zig x)) l ((m : Int) + (uintL u).length + (uintL (zig x)).length) (by have := HL.out; simp; omega) (by omega)
  have eA : l ++ (uintL u ++ (uintL (zig x) ++ textL l)) = l ++ uintL u ++ uintL (zig x) ++ textL l := by simp
  have eB : l ++ uintL u ++ (uintL (zig x) ++ textL l) = l ++ uintL u ++ uintL (zig x) ++ textL l := by simp
  rw [eA] at e1
  rw [eB] at e2
  have es : sizeN u = (uintL u).length := sizeN_eq u hu3
  have e4 : n3 = m + (uintL u).length + (uintL (zig x)).length + ((uintL l.length).length + l.length) := by have := HL.out; simp [textL] at hn3; omega
  have ht10 := uintL_len10 l.length (by omega)
  have hsz := size_any u w3 (by omega)
  rw [es] at hsz
  clear eA eB es hn3
  generalize l ++ uintL u ++ uintL (zig x) ++ textL l = L at r3 e1 e2 e3
  generalize (uintL u).length = a at *
  generalize (uintL (zig x)).length = b at *
  have htb : (uintL l.length).length + l.length ≤ 310 := by omega
  generalize (uintL l.length).length + l.length = t at *
  have H1 := Lib.hid (getUint_any A3 n3 c3 (m : Int) L w3 r3 hcap1 (by omega) hcap2)
  have H2 := Lib.hid (getInt_any A3 n3 c3 ((m : Int) + a) L w3 r3 hcap1 (by omega) hcap2)
  have H3 := Lib.hid (getText_any A3 n3 c3 ((m : Int) + a + b) 300 L w3 r3 hcap1 (by omega) hcap2 (by omega) (by omega))
  rw [e1] at H1
  rw [e2] at H2
  rw [e3] at H3
  clear e1 e2 e3
  have H4 := Lib.hid hsz
  have hb3 : Below w.heap.size w w3 := (Below.refl _ _).drew.trans (g13.mono (Nat.le_refl _))
  have hr3 := hr.next hb3
  have H5 := Lib.hid (getInt_any A m c' (y : Int) l w3 hr3 hmc (by omega) hcx)
  have q := strq (c := c') hr3
  have hzz := zag_zig x
  subst e4
  clear hsz r3 hcap1 hcap2
  go_wp2_with fail
  refine H1.out.mono ?_; rintro e w4 ⟨rfl, rfl⟩
  simp only [resU]
  go_wp2_with fail
  refine H2.out.mono ?_; rintro e w4 ⟨rfl, rfl⟩
  simp only [resI]
  go_wp2_with fail
  refine H3.out.mono ?_; rintro e w4 ⟨rfl, rfl⟩
  simp only [resT]
  go_wp2_with fail
  refine H4.out.mono ?_; rintro e w4 ⟨rfl, rfl⟩
  clear H1 H2 H3 H4
  go_wp2_with fail
  refine H5.out.mono ?_; rintro e w4 ⟨rfl, rfl⟩
  clear H5 q
  cases hv : getUAt l (y : Int) with
  | none =>
    simp only [resI]
    clear hv
    go_wp2_with fail
    refine wp_region_sched [(0, true), (1, true), (2, true), (3, true), (6, true), (7, true), (8, true), (9, true), (10, true), (4, false), (5, true), (11, true), (12, true), (13, true), (14, false), (15, true), (16, true)] (by kernel_rfl) (by kernel_rfl) (fun _ _ d _ _ h => by cases d <;> exact h) ?_
    refine sread (v := ?vn0) rfl rfl ?hn0 ?rn0
    case hn0 => (intro W hW; first | (go_simp; done) | (go_simp; with_reducible rfl))
    simp only [Act.put, List.setIfInBounds_toArray, List.set_cons_zero, List.set_cons_succ]
    refine sread (v := ?vn1) rfl rfl ?hn1 ?rn1
    case hn1 => (intro W hW; first | (go_simp; done) | (go_simp; with_reducible rfl))
    simp only [Act.put, List.setIfInBounds_toArray, List.set_cons_zero, List.set_cons_succ]
    refine sread (v := ?vn2) rfl rfl ?hn2 ?rn2
    case hn2 => (intro W hW; first | (go_simp; done) | (go_simp; with_reducible rfl))
    simp only [Act.put, List.setIfInBounds_toArray, List.set_cons_zero, List.set_cons_succ]
    refine sskip rfl rfl ?_
    simp only [Act.put, List.setIfInBounds_toArray, List.set_cons_zero, List.set_cons_succ]
    refine sskip rfl rfl ?_
    simp only [Act.put, List.setIfInBounds_toArray, List.set_cons_zero, List.set_cons_succ]
    refine sskip rfl rfl ?_
    simp only [Act.put, List.setIfInBounds_toArray, List.set_cons_zero, List.set_cons_succ]
    refine sskip rfl rfl ?_
    simp only [Act.put, List.setIfInBounds_toArray, List.set_cons_zero, List.set_cons_succ]
    refine sskip rfl rfl ?_
    simp only [Act.put, List.setIfInBounds_toArray, List.set_cons_zero, List.set_cons_succ]
    refine sskip rfl rfl ?_
    simp only [Act.put, List.setIfInBounds_toArray, List.set_cons_zero, List.set_cons_succ]
    refine sskip rfl rfl ?_
    simp only [Act.put, List.setIfInBounds_toArray, List.set_cons_zero, List.set_cons_succ]
    refine sskip rfl rfl ?_
    simp only [Act.put, List.setIfInBounds_toArray, List.set_cons_zero, List.set_cons_succ]
    refine sskip rfl rfl ?_
    simp only [Act.put, List.setIfInBounds_toArray, List.set_cons_zero, List.set_cons_succ]
    refine sread (v := ?vn12) rfl rfl ?hn12 ?rn12
    case hn12 => (intro W hW; first | (go_simp; done) | (go_simp; with_reducible rfl))
    simp only [Act.put, List.setIfInBounds_toArray, List.set_cons_zero, List.set_cons_succ]
    refine sread (v := ?vn13) rfl rfl ?hn13 ?rn13
    case hn13 => (intro W hW; first | (go_simp; done) | (go_simp; with_reducible rfl))
    simp only [Act.put, List.setIfInBounds_toArray, List.set_cons_zero, List.set_cons_succ]
    refine scall rfl rfl (fun K hK => ?_)
    go_simp
    refine (lives_any _).mono ?_; rintro e w7 ⟨rfl, b7⟩
    go_wp2_with fail
    refine hK.out _ _ ?gn14 ?kn14
    case gn14 => exact b7
    clear hK K
    try simp only [Act.put, List.setIfInBounds_toArray, List.set_cons_zero, List.set_cons_succ]
    refine sread (v := ?vn15) rfl rfl ?hn15 ?rn15
    case hn15 => (intro W hW; first | (go_simp; done) | (go_simp; with_reducible rfl))
    simp only [Act.put, List.setIfInBounds_toArray, List.set_cons_zero, List.set_cons_succ]
    refine sread (v := ?vn16) rfl rfl ?hn16 ?rn16
    case hn16 => (intro W hW; first | (go_simp; done) | (go_simp; with_reducible rfl))
    simp only [Act.put, List.setIfInBounds_toArray, List.set_cons_zero, List.set_cons_succ]
    refine sdone ?_
    go_wp2_with fail
    go_ret
    exact ⟨rfl, hb3.drew.trans (b7.mono hb3.size)⟩
  | some p =>
    obtain ⟨v, k⟩ := p
    obtain ⟨p1, p2, p3, p4, p5⟩ := getUAt_lt hv
    obtain ⟨hz1, hz2⟩ := zag_bounds v p1
    have hvl : uintL v = (l.drop y).take k := by
      rw [getUAt, if_pos (by omega), Int.toNat_natCast] at hv
      exact (getU_some hv).2.1.symm
    have HVL := Lib.hid hvl
    simp only [resI]
    obtain ⟨b, off, rfl, hbl⟩ := hr3.some_ (k := y) (by omega)
    have hmid := hr3.mid' (k := y) (u := k) (by omega)
    have hyc : ¬ c' = y := by omega
    have hb5 : (y : Int) + (k : Int) ≤ (c' : Int) := by omega
    clear hv hvl
    go_wp2_with fail
    refine wp_region_sched [(0, true), (1, true), (2, true), (3, true), (6, true), (7, true), (8, true), (9, true), (10, true), (4, false), (5, true), (11, true), (12, true), (13, true), (14, false), (15, true), (16, true)] (by kernel_rfl) (by kernel_rfl) (fun _ _ d _ _ h => by cases d <;> exact h) ?_
    refine sread (v := ?vs0) rfl rfl ?hs0 ?rs0
    case hs0 => (intro W hW; first | (go_simp; done) | (go_simp; with_reducible rfl))
    simp only [Act.put, List.setIfInBounds_toArray, List.set_cons_zero, List.set_cons_succ]
    refine sread (v := ?vs1) rfl rfl ?hs1 ?rs1
    case hs1 => (intro W hW; first | (go_simp; done) | (go_simp; with_reducible rfl))
    simp only [Act.put, List.setIfInBounds_toArray, List.set_cons_zero, List.set_cons_succ]
    refine sread (v := ?vs2) rfl rfl ?hs2 ?rs2
    case hs2 => (intro W hW; first | (go_simp; done) | (go_simp; with_reducible rfl))
    simp only [Act.put, List.setIfInBounds_toArray, List.set_cons_zero, List.set_cons_succ]
    refine sread (v := ?vs3) rfl rfl ?hs3 ?rs3
    case hs3 => (intro W hW; first | (go_simp; done) | (go_simp; with_reducible rfl))
    simp only [Act.put, List.setIfInBounds_toArray, List.set_cons_zero, List.set_cons_succ]
    refine sread (v := ?vs6) rfl rfl ?hs6 ?rs6
    case hs6 => (intro W hW; first | (go_simp; done) | (go_simp; with_reducible rfl))
    simp only [Act.put, List.setIfInBounds_toArray, List.set_cons_zero, List.set_cons_succ]
    refine sread (v := ?vs7) rfl rfl ?hs7 ?rs7
    case hs7 => (intro W hW; first | (go_simp; done) | (go_simp; with_reducible rfl))
    simp only [Act.put, List.setIfInBounds_toArray, List.set_cons_zero, List.set_cons_succ]
    refine sread (v := ?vs8) rfl rfl ?hs8 ?rs8
    case hs8 => (intro W hW; first | (go_simp; done) | (go_simp; with_reducible rfl))
    simp only [Act.put, List.setIfInBounds_toArray, List.set_cons_zero, List.set_cons_succ]
    refine sread (v := .slice (some ⟨b, off + y, none⟩) k (c' - y)) rfl rfl ?hs9 ?rs9
    case hs9 => (intro W hW; have e1 : ((y : Int) + (k : Int)).toNat = y + k := (by omega); have e2 : y + k - y = k := (by omega); have e3 : y ≤ y + k := (by omega); have e4 : (0 : Int) ≤ (y : Int) + (k : Int) := (by omega); go_simp)
    simp only [Act.put, List.setIfInBounds_toArray, List.set_cons_zero, List.set_cons_succ]
    refine sread (v := ?vs10) rfl rfl ?hs10 ?rs10
    case hs10 => (intro W hW; have q := strq (c := c' - y) (hmid.drew.below (hW.out.mono (Nat.le_refl _))); go_simp; with_reducible rfl)
    simp only [Act.put, List.setIfInBounds_toArray, List.set_cons_zero, List.set_cons_succ]
    refine scall rfl rfl (fun K hK => ?_)
    go_simp
    refine (putInt_any none 0 0 (zag v) [] _ Rd.nil_ (by omega) hz1 hz2).mono ?_; rintro e w4 ⟨A4, n4, c4, rfl, o4, b4⟩
    go_wp2_with fail
    refine hK.out _ _ ?gs4 ?ks4
    case gs4 => exact b4
    clear hK K
    try simp only [Act.put, List.setIfInBounds_toArray, List.set_cons_zero, List.set_cons_succ]
    have r4 := Rd.of_own o4; clear o4; rw [List.nil_append, zig_zag, HVL.out] at r4
    refine sread (v := ?vs5) rfl rfl ?hs5 ?rs5
    case hs5 => (intro W hW; have q := strq (c := c4) (r4.next hW.out); go_simp; with_reducible rfl)
    simp only [Act.put, List.setIfInBounds_toArray, List.set_cons_zero, List.set_cons_succ]
    refine sread (v := ?vs11) rfl rfl ?hs11 ?rs11
    case hs11 => (intro W hW; first | (go_simp; done) | (go_simp; with_reducible rfl))
    simp only [Act.put, List.setIfInBounds_toArray, List.set_cons_zero, List.set_cons_succ]
    refine sread (v := ?vs12) rfl rfl ?hs12 ?rs12
    case hs12 => (intro W hW; first | (go_simp; done) | (go_simp; with_reducible rfl))
    simp only [Act.put, List.setIfInBounds_toArray, List.set_cons_zero, List.set_cons_succ]
    refine sread (v := ?vs13) rfl rfl ?hs13 ?rs13
    case hs13 => (intro W hW; first | (go_simp; done) | (go_simp; with_reducible rfl))
    simp only [Act.put, List.setIfInBounds_toArray, List.set_cons_zero, List.set_cons_succ]
    refine scall rfl rfl (fun K hK => ?_)
    go_simp
    refine (lives_any _).mono ?_; rintro e w7 ⟨rfl, b7⟩
    go_wp2_with fail
    refine hK.out _ _ ?gs14 ?ks14
    case gs14 => exact b7
    clear hK K
    try simp only [Act.put, List.setIfInBounds_toArray, List.set_cons_zero, List.set_cons_succ]
    refine sread (v := ?vs15) rfl rfl ?hs15 ?rs15
    case hs15 => (intro W hW; first | (go_simp; done) | (go_simp; with_reducible rfl))
    simp only [Act.put, List.setIfInBounds_toArray, List.set_cons_zero, List.set_cons_succ]
    refine sread (v := ?vs16) rfl rfl ?hs16 ?rs16
    case hs16 => (intro W hW; first | (go_simp; done) | (go_simp; with_reducible rfl))
    simp only [Act.put, List.setIfInBounds_toArray, List.set_cons_zero, List.set_cons_succ]
    refine sdone ?_
    go_wp2_with fail
    go_ret
    exact ⟨rfl, hb3.drew.trans ((bthen b4 b7).mono hb3.size)⟩
end Go.Proofs.Ytmejkfhjkafmlaa.octetsBack
