/- OctetsWords' walk. -/
import Derived.Test.YtmejkfhjkafmlaaOctRef2
import Derived.Test.YtmejkfhjkafmlaaOpen
import Derived.IntWalk
namespace Go.Proofs.Ytmejkfhjkafmlaa.octetsWords
open Go.RowKit O

theorem word_back (d : List UInt8) (h : 4 ≤ d.length) : wordL (wordTo d 4) = d.take 4 ∧ wordTo d 4 < 4294967296 := by
  match d, h with
  | a :: b :: c :: e :: r, _ =>
    have ha := a.toNat_lt
    have hb := b.toNat_lt
    have hc := c.toNat_lt
    have he := e.toNat_lt
    have hv : wordTo (a :: b :: c :: e :: r) 4 = ((a.toNat * 256 + b.toNat) * 256 + c.toNat) * 256 + e.toNat := by simp [wordTo]
    rw [hv]
    refine ⟨?_, by omega⟩
    simp only [wordL, List.take_succ_cons, List.take_zero]
    rw [ofNat_toNat a _ (by omega), ofNat_toNat b _ (by omega), ofNat_toNat c _ (by omega), ofNat_toNat e _ (by omega)]

set_option maxRecDepth 100000 in
set_option maxHeartbeats 4000000 in
theorem walk (A : Option Addr) (n c : Nat) (l0 : List UInt8) (x : Int) (w : World) (h0 : IsB w A n c l0) (hx0 : (Lit.int .i64 x).wf = true) :
    Calls Try.prog 8 #[.slice A n c, .int .i64 x] w fun e w' => e = .returned (.bool true) ∧ Below w.heap.size w w' := by
  obtain ⟨h, hnc, hcm⟩ := h0
  unfold maxLen at hcm
  obtain ⟨hx1, hx2⟩ := bounds_i64 hx0
  clear hx0
  go_enter Try.func8, Try.ntmps8
  go_wp2_with fail
  refine (cut_any A n c l0 w h hnc hcm).mono ?_; rintro e w1 ⟨m, c', rfl, hm, hmc, hcx, hr, rfl⟩
  generalize l0.take 300 = l at hr
  clear h hnc hcm
  have hl : l.length = m := by have := hr.1; simp at this; omega
  have H1 := Lib.hid (getWord_any A m c' x l w hr hmc (by omega) hcx)
  by_cases hin : 0 ≤ x ∧ x ≤ (m : Int) - 4
  · obtain ⟨hi1, hi2⟩ := hin
    obtain ⟨y, rfl⟩ := Int.eq_ofNat_of_zero_le hi1
    have hW : getWAt l (y : Int) = some (wordTo (l.drop y) 4) := by rw [getWAt, if_pos (by omega), Int.toNat_natCast]
    rw [hW] at H1
    obtain ⟨hwd, hwl⟩ := word_back (l.drop y) (by simp; omega)
    obtain ⟨b, off, rfl, hbl⟩ := hr.some_ (k := y) (by omega)
    have hmid := hr.mid' (k := y) (u := 4) (by omega)
    have hyc : ¬ c' = y := by omega
    have hb3 : (y : Int) + 4 ≤ (c' : Int) := by omega
    have hyd : decide ((0 : Int) ≤ (y : Int)) = true := by simp
    clear hW hl
    have HWD := Lib.hid hwd
    clear hwd
    go_wp2_with fail
    refine H1.out.mono ?_; rintro e w1 ⟨rfl, rfl⟩
    simp only [resW]
    clear H1
    go_wp2_with fail
    refine wp_region_sched [(0, true), (1, true), (2, true), (3, true), (4, true), (5, true), (6, true), (7, true), (8, true), (9, true), (10, true), (11, true), (12, true), (13, true), (14, true), (15, true), (16, true), (17, true), (18, true), (19, true), (20, true), (21, true), (22, true), (23, true), (26, true), (27, true), (28, true), (29, true), (30, true), (24, false), (25, true), (31, true), (32, true), (33, true), (34, true)] (by kernel_rfl) (by kernel_rfl) (fun _ _ d _ _ h => by cases d <;> exact h) ?_
    refine sread (v := ?vp0) rfl rfl ?hp0 ?rp0
    case hp0 => (intro W hW; first | (go_simp; done) | (go_simp; with_reducible rfl))
    simp only [Act.put, List.setIfInBounds_toArray, List.set_cons_zero, List.set_cons_succ]
    refine sread (v := ?vp1) rfl rfl ?hp1 ?rp1
    case hp1 => (intro W hW; first | (go_simp; done) | (go_simp; with_reducible rfl))
    simp only [Act.put, List.setIfInBounds_toArray, List.set_cons_zero, List.set_cons_succ]
    refine sread (v := ?vp2) rfl rfl ?hp2 ?rp2
    case hp2 => (intro W hW; first | (go_simp; done) | (go_simp; with_reducible rfl))
    simp only [Act.put, List.setIfInBounds_toArray, List.set_cons_zero, List.set_cons_succ]
    refine sread (v := ?vp3) rfl rfl ?hp3 ?rp3
    case hp3 => (intro W hW; first | (go_simp; done) | (go_simp; with_reducible rfl))
    simp only [Act.put, List.setIfInBounds_toArray, List.set_cons_zero, List.set_cons_succ]
    refine sread (v := ?vp4) rfl rfl ?hp4 ?rp4
    case hp4 => (intro W hW; first | (go_simp; done) | (go_simp; with_reducible rfl))
    simp only [Act.put, List.setIfInBounds_toArray, List.set_cons_zero, List.set_cons_succ]
    refine sread (v := ?vp5) rfl rfl ?hp5 ?rp5
    case hp5 => (intro W hW; first | (go_simp; done) | (go_simp; with_reducible rfl))
    simp only [Act.put, List.setIfInBounds_toArray, List.set_cons_zero, List.set_cons_succ]
    refine sread (v := ?vp6) rfl rfl ?hp6 ?rp6
    case hp6 => (intro W hW; first | (go_simp; done) | (go_simp; with_reducible rfl))
    simp only [Act.put, List.setIfInBounds_toArray, List.set_cons_zero, List.set_cons_succ]
    refine sskip rfl rfl ?_
    simp only [Act.put, List.setIfInBounds_toArray, List.set_cons_zero, List.set_cons_succ]
    refine sskip rfl rfl ?_
    simp only [Act.put, List.setIfInBounds_toArray, List.set_cons_zero, List.set_cons_succ]
    refine sskip rfl rfl ?_
    simp only [Act.put, List.setIfInBounds_toArray, List.set_cons_zero, List.set_cons_succ]
    refine sskip rfl rfl ?_
    simp only [Act.put, List.setIfInBounds_toArray, List.set_cons_zero, List.set_cons_succ]
    refine sskip rfl rfl ?_
    simp only [Act.put, List.setIfInBounds_toArray, List.set_cons_zero, List.set_cons_succ]
    refine sskip rfl rfl ?_
    simp only [Act.put, List.setIfInBounds_toArray, List.set_cons_zero, List.set_cons_succ]
    refine sread (v := ?vp13) rfl rfl ?hp13 ?rp13
    case hp13 => (intro W hW; first | (go_simp; done) | (go_simp; with_reducible rfl))
    simp only [Act.put, List.setIfInBounds_toArray, List.set_cons_zero, List.set_cons_succ]
    refine sread (v := ?vp14) rfl rfl ?hp14 ?rp14
    case hp14 => (intro W hW; first | (go_simp; done) | (go_simp; with_reducible rfl))
    simp only [Act.put, List.setIfInBounds_toArray, List.set_cons_zero, List.set_cons_succ]
    refine sread (v := ?vp15) rfl rfl ?hp15 ?rp15
    case hp15 => (intro W hW; first | (go_simp; done) | (go_simp; with_reducible rfl))
    simp only [Act.put, List.setIfInBounds_toArray, List.set_cons_zero, List.set_cons_succ]
    refine sread (v := ?vp16) rfl rfl ?hp16 ?rp16
    case hp16 => (intro W hW; first | (go_simp; done) | (go_simp; with_reducible rfl))
    simp only [Act.put, List.setIfInBounds_toArray, List.set_cons_zero, List.set_cons_succ]
    refine sread (v := ?vp17) rfl rfl ?hp17 ?rp17
    case hp17 => (intro W hW; first | (go_simp; done) | (go_simp; with_reducible rfl))
    simp only [Act.put, List.setIfInBounds_toArray, List.set_cons_zero, List.set_cons_succ]
    refine sread (v := ?vp18) rfl rfl ?hp18 ?rp18
    case hp18 => (intro W hW; first | (go_simp; done) | (go_simp; with_reducible rfl))
    simp only [Act.put, List.setIfInBounds_toArray, List.set_cons_zero, List.set_cons_succ]
    refine sread (v := ?vp19) rfl rfl ?hp19 ?rp19
    case hp19 => (intro W hW; first | (go_simp; done) | (go_simp; with_reducible rfl))
    simp only [Act.put, List.setIfInBounds_toArray, List.set_cons_zero, List.set_cons_succ]
    refine sread (v := ?vp20) rfl rfl ?hp20 ?rp20
    case hp20 => (intro W hW; have hwr : IntKind.i64.wrap ((y : Int) + 4) = (y : Int) + 4 := IntWalk.i64_in _ (by omega); go_simp; with_reducible rfl)
    simp only [Act.put, List.setIfInBounds_toArray, List.set_cons_zero, List.set_cons_succ]
    refine sread (v := ?vp21) rfl rfl ?hp21 ?rp21
    case hp21 => (intro W hW; first | (go_simp; done) | (go_simp; with_reducible rfl))
    simp only [Act.put, List.setIfInBounds_toArray, List.set_cons_zero, List.set_cons_succ]
    refine sread (v := ?vp22) rfl rfl ?hp22 ?rp22
    case hp22 => (intro W hW; first | (go_simp; done) | (go_simp; with_reducible rfl))
    simp only [Act.put, List.setIfInBounds_toArray, List.set_cons_zero, List.set_cons_succ]
    refine sread (v := ?vp23) rfl rfl ?hp23 ?rp23
    case hp23 => (intro W hW; first | (go_simp; done) | (go_simp; with_reducible rfl))
    simp only [Act.put, List.setIfInBounds_toArray, List.set_cons_zero, List.set_cons_succ]
    refine sread (v := ?vp26) rfl rfl ?hp26 ?rp26
    case hp26 => (intro W hW; first | (go_simp; done) | (go_simp; with_reducible rfl))
    simp only [Act.put, List.setIfInBounds_toArray, List.set_cons_zero, List.set_cons_succ]
    refine sread (v := ?vp27) rfl rfl ?hp27 ?rp27
    case hp27 => (intro W hW; first | (go_simp; done) | (go_simp; with_reducible rfl))
    simp only [Act.put, List.setIfInBounds_toArray, List.set_cons_zero, List.set_cons_succ]
    refine sread (v := ?vp28) rfl rfl ?hp28 ?rp28
    case hp28 => (intro W hW; first | (go_simp; done) | (go_simp; with_reducible rfl))
    simp only [Act.put, List.setIfInBounds_toArray, List.set_cons_zero, List.set_cons_succ]
    refine sread (v := .slice (some ⟨b, off + y, none⟩) 4 (c' - y)) rfl rfl ?hp29 ?rp29
    case hp29 => (intro W hW; have e1 : ((y : Int) + 4).toNat = y + 4 := (by omega); have e3 : y ≤ y + 4 := (by omega); have e4 : (0 : Int) ≤ (y : Int) + 4 := (by omega); go_simp)
    simp only [Act.put, List.setIfInBounds_toArray, List.set_cons_zero, List.set_cons_succ]
    refine sread (v := ?vp30) rfl rfl ?hp30 ?rp30
    case hp30 => (intro W hW; have q := strq (c := c' - y) (hmid.drew.below (hW.out.mono (Nat.le_refl _))); go_simp; with_reducible rfl)
    simp only [Act.put, List.setIfInBounds_toArray, List.set_cons_zero, List.set_cons_succ]
    refine scall rfl rfl (fun K hK => ?_)
    go_simp
    refine (refWord (wordTo (l.drop y) 4) _ hwl).mono ?_; rintro e w1 ⟨A1, n1, c1, rfl, o1, b1⟩
    go_wp2_with fail
    refine hK.out _ _ ?gp24 ?kp24
    case gp24 => exact b1
    clear hK K
    try simp only [Act.put, List.setIfInBounds_toArray, List.set_cons_zero, List.set_cons_succ]
    have r1 := Rd.of_own o1; clear o1; rw [HWD.out] at r1
    refine sread (v := ?vp25) rfl rfl ?hp25 ?rp25
    case hp25 => (intro W hW; have q := strq (c := c1) (r1.next hW.out); go_simp; with_reducible rfl)
    simp only [Act.put, List.setIfInBounds_toArray, List.set_cons_zero, List.set_cons_succ]
    refine sread (v := ?vp31) rfl rfl ?hp31 ?rp31
    case hp31 => (intro W hW; first | (go_simp; done) | (go_simp; with_reducible rfl))
    simp only [Act.put, List.setIfInBounds_toArray, List.set_cons_zero, List.set_cons_succ]
    refine sread (v := ?vp32) rfl rfl ?hp32 ?rp32
    case hp32 => (intro W hW; first | (go_simp; done) | (go_simp; with_reducible rfl))
    simp only [Act.put, List.setIfInBounds_toArray, List.set_cons_zero, List.set_cons_succ]
    refine sread (v := ?vp33) rfl rfl ?hp33 ?rp33
    case hp33 => (intro W hW; first | (go_simp; done) | (go_simp; with_reducible rfl))
    simp only [Act.put, List.setIfInBounds_toArray, List.set_cons_zero, List.set_cons_succ]
    refine sread (v := ?vp34) rfl rfl ?hp34 ?rp34
    case hp34 => (intro W hW; first | (go_simp; done) | (go_simp; with_reducible rfl))
    simp only [Act.put, List.setIfInBounds_toArray, List.set_cons_zero, List.set_cons_succ]
    refine sdone ?_
    go_wp2_with fail
    refine (sum_any (some ⟨b, off, none⟩) m c' _ l _ ((hr.drew.below (b1.mono (Nat.le_refl _)))) (by omega)).mono ?_; rintro e w2 ⟨rfl, rfl⟩
    go_wp2_with fail
    refine (refSum_any (some ⟨b, off, none⟩) m c' _ l _ ((hr.drew.below (b1.mono (Nat.le_refl _)))) (by omega)).mono ?_; rintro e w2 ⟨rfl, rfl⟩
    go_wp2_with fail
    refine (lives_any _).mono ?_; rintro e w7 ⟨rfl, b7⟩
    go_wp2_with fail
    go_ret
    exact ⟨rfl, (Below.refl _ _).drew.trans ((bthen b1 b7).mono (Nat.le_refl _))⟩
  · have hW : getWAt l x = none := by rw [getWAt, if_neg (by omega)]
    rw [hW] at H1
    clear hW
    rcases (show x < 0 ∨ (0 ≤ x ∧ (m : Int) - 4 < x) by omega) with hi | ⟨hi, hj⟩
    · clear hin hl
      go_wp2_with fail
      refine H1.out.mono ?_; rintro e w1 ⟨rfl, rfl⟩
      simp only [resW]
      go_wp2_with fail
      refine wp_region_sched [(0, true), (1, true), (2, true), (3, true), (4, true), (5, true), (6, true), (7, true), (8, true), (9, true), (10, true), (11, true), (12, true), (13, true), (14, true), (15, true), (16, true), (17, true), (18, true), (19, true), (20, true), (21, true), (22, true), (23, true), (26, true), (27, true), (28, true), (29, true), (30, true), (24, false), (25, true), (31, true), (32, true), (33, true), (34, true)] (by kernel_rfl) (by kernel_rfl) (fun _ _ d _ _ h => by cases d <;> exact h) ?_
      refine sread (v := ?vn0) rfl rfl ?hn0 ?rn0
      case hn0 => (intro W hW; first | (go_simp; done) | (go_simp; with_reducible rfl))
      simp only [Act.put, List.setIfInBounds_toArray, List.set_cons_zero, List.set_cons_succ]
      refine sread (v := ?vn1) rfl rfl ?hn1 ?rn1
      case hn1 => (intro W hW; first | (go_simp; done) | (go_simp; with_reducible rfl))
      simp only [Act.put, List.setIfInBounds_toArray, List.set_cons_zero, List.set_cons_succ]
      refine sread (v := ?vn2) rfl rfl ?hn2 ?rn2
      case hn2 => (intro W hW; first | (go_simp; done) | (go_simp; with_reducible rfl))
      simp only [Act.put, List.setIfInBounds_toArray, List.set_cons_zero, List.set_cons_succ]
      refine sread (v := ?vn3) rfl rfl ?hn3 ?rn3
      case hn3 => (intro W hW; first | (go_simp; done) | (go_simp; with_reducible rfl))
      simp only [Act.put, List.setIfInBounds_toArray, List.set_cons_zero, List.set_cons_succ]
      refine sread (v := ?vn4) rfl rfl ?hn4 ?rn4
      case hn4 => (intro W hW; first | (go_simp; done) | (go_simp; with_reducible rfl))
      simp only [Act.put, List.setIfInBounds_toArray, List.set_cons_zero, List.set_cons_succ]
      refine sread (v := ?vn5) rfl rfl ?hn5 ?rn5
      case hn5 => (intro W hW; first | (go_simp; done) | (go_simp; with_reducible rfl))
      simp only [Act.put, List.setIfInBounds_toArray, List.set_cons_zero, List.set_cons_succ]
      refine sread (v := ?vn6) rfl rfl ?hn6 ?rn6
      case hn6 => (intro W hW; first | (go_simp; done) | (go_simp; with_reducible rfl))
      simp only [Act.put, List.setIfInBounds_toArray, List.set_cons_zero, List.set_cons_succ]
      refine sread (v := ?vn7) rfl rfl ?hn7 ?rn7
      case hn7 => (intro W hW; first | (go_simp; done) | (go_simp; with_reducible rfl))
      simp only [Act.put, List.setIfInBounds_toArray, List.set_cons_zero, List.set_cons_succ]
      refine sread (v := ?vn8) rfl rfl ?hn8 ?rn8
      case hn8 => (intro W hW; first | (go_simp; done) | (go_simp; with_reducible rfl))
      simp only [Act.put, List.setIfInBounds_toArray, List.set_cons_zero, List.set_cons_succ]
      refine sread (v := ?vn9) rfl rfl ?hn9 ?rn9
      case hn9 => (intro W hW; first | (go_simp; done) | (go_simp; with_reducible rfl))
      simp only [Act.put, List.setIfInBounds_toArray, List.set_cons_zero, List.set_cons_succ]
      refine sread (v := ?vn10) rfl rfl ?hn10 ?rn10
      case hn10 => (intro W hW; first | (go_simp; done) | (go_simp; with_reducible rfl))
      simp only [Act.put, List.setIfInBounds_toArray, List.set_cons_zero, List.set_cons_succ]
      refine sread (v := ?vn11) rfl rfl ?hn11 ?rn11
      case hn11 => (intro W hW; first | (go_simp; done) | (go_simp; with_reducible rfl))
      simp only [Act.put, List.setIfInBounds_toArray, List.set_cons_zero, List.set_cons_succ]
      refine sread (v := ?vn12) rfl rfl ?hn12 ?rn12
      case hn12 => (intro W hW; first | (go_simp; done) | (go_simp; with_reducible rfl))
      simp only [Act.put, List.setIfInBounds_toArray, List.set_cons_zero, List.set_cons_succ]
      refine sread (v := ?vn13) rfl rfl ?hn13 ?rn13
      case hn13 => (intro W hW; first | (go_simp; done) | (go_simp; with_reducible rfl))
      simp only [Act.put, List.setIfInBounds_toArray, List.set_cons_zero, List.set_cons_succ]
      refine sread (v := ?vn14) rfl rfl ?hn14 ?rn14
      case hn14 => (intro W hW; first | (go_simp; done) | (go_simp; with_reducible rfl))
      simp only [Act.put, List.setIfInBounds_toArray, List.set_cons_zero, List.set_cons_succ]
      refine sread (v := ?vn15) rfl rfl ?hn15 ?rn15
      case hn15 => (intro W hW; first | (go_simp; done) | (go_simp; with_reducible rfl))
      simp only [Act.put, List.setIfInBounds_toArray, List.set_cons_zero, List.set_cons_succ]
      refine sread (v := ?vn16) rfl rfl ?hn16 ?rn16
      case hn16 => (intro W hW; first | (go_simp; done) | (go_simp; with_reducible rfl))
      simp only [Act.put, List.setIfInBounds_toArray, List.set_cons_zero, List.set_cons_succ]
      refine sread (v := ?vn17) rfl rfl ?hn17 ?rn17
      case hn17 => (intro W hW; first | (go_simp; done) | (go_simp; with_reducible rfl))
      simp only [Act.put, List.setIfInBounds_toArray, List.set_cons_zero, List.set_cons_succ]
      refine sskip rfl rfl ?_
      simp only [Act.put, List.setIfInBounds_toArray, List.set_cons_zero, List.set_cons_succ]
      refine sskip rfl rfl ?_
      simp only [Act.put, List.setIfInBounds_toArray, List.set_cons_zero, List.set_cons_succ]
      refine sskip rfl rfl ?_
      simp only [Act.put, List.setIfInBounds_toArray, List.set_cons_zero, List.set_cons_succ]
      refine sskip rfl rfl ?_
      simp only [Act.put, List.setIfInBounds_toArray, List.set_cons_zero, List.set_cons_succ]
      refine sskip rfl rfl ?_
      simp only [Act.put, List.setIfInBounds_toArray, List.set_cons_zero, List.set_cons_succ]
      refine sskip rfl rfl ?_
      simp only [Act.put, List.setIfInBounds_toArray, List.set_cons_zero, List.set_cons_succ]
      refine sskip rfl rfl ?_
      simp only [Act.put, List.setIfInBounds_toArray, List.set_cons_zero, List.set_cons_succ]
      refine sskip rfl rfl ?_
      simp only [Act.put, List.setIfInBounds_toArray, List.set_cons_zero, List.set_cons_succ]
      refine sskip rfl rfl ?_
      simp only [Act.put, List.setIfInBounds_toArray, List.set_cons_zero, List.set_cons_succ]
      refine sskip rfl rfl ?_
      simp only [Act.put, List.setIfInBounds_toArray, List.set_cons_zero, List.set_cons_succ]
      refine sskip rfl rfl ?_
      simp only [Act.put, List.setIfInBounds_toArray, List.set_cons_zero, List.set_cons_succ]
      refine sskip rfl rfl ?_
      simp only [Act.put, List.setIfInBounds_toArray, List.set_cons_zero, List.set_cons_succ]
      refine sskip rfl rfl ?_
      simp only [Act.put, List.setIfInBounds_toArray, List.set_cons_zero, List.set_cons_succ]
      refine sskip rfl rfl ?_
      simp only [Act.put, List.setIfInBounds_toArray, List.set_cons_zero, List.set_cons_succ]
      refine sskip rfl rfl ?_
      simp only [Act.put, List.setIfInBounds_toArray, List.set_cons_zero, List.set_cons_succ]
      refine sread (v := ?vn33) rfl rfl ?hn33 ?rn33
      case hn33 => (intro W hW; first | (go_simp; done) | (go_simp; with_reducible rfl))
      simp only [Act.put, List.setIfInBounds_toArray, List.set_cons_zero, List.set_cons_succ]
      refine sread (v := ?vn34) rfl rfl ?hn34 ?rn34
      case hn34 => (intro W hW; first | (go_simp; done) | (go_simp; with_reducible rfl))
      simp only [Act.put, List.setIfInBounds_toArray, List.set_cons_zero, List.set_cons_succ]
      refine sdone ?_
      go_wp2_with fail
      refine (sum_any A m c' _ l _ hr.drew (by omega)).mono ?_; rintro e w2 ⟨rfl, rfl⟩
      go_wp2_with fail
      refine (refSum_any A m c' _ l _ hr.drew (by omega)).mono ?_; rintro e w2 ⟨rfl, rfl⟩
      go_wp2_with fail
      refine (lives_any _).mono ?_; rintro e w7 ⟨rfl, b7⟩
      go_wp2_with fail
      go_ret
      exact ⟨rfl, (Below.refl _ _).drew.trans (b7.mono (Nat.le_refl _))⟩
    · clear hin hl
      have hjd : decide (x ≤ (m : Int) - 4) = false := by simp; omega
      go_wp2_with fail
      refine H1.out.mono ?_; rintro e w1 ⟨rfl, rfl⟩
      simp only [resW]
      go_wp2_with fail
      refine wp_region_sched [(0, true), (1, true), (2, true), (3, true), (4, true), (5, true), (6, true), (7, true), (8, true), (9, true), (10, true), (11, true), (12, true), (13, true), (14, true), (15, true), (16, true), (17, true), (18, true), (19, true), (20, true), (21, true), (22, true), (23, true), (26, true), (27, true), (28, true), (29, true), (30, true), (24, false), (25, true), (31, true), (32, true), (33, true), (34, true)] (by kernel_rfl) (by kernel_rfl) (fun _ _ d _ _ h => by cases d <;> exact h) ?_
      refine sread (v := ?vo0) rfl rfl ?ho0 ?ro0
      case ho0 => (intro W hW; first | (go_simp; done) | (go_simp; with_reducible rfl))
      simp only [Act.put, List.setIfInBounds_toArray, List.set_cons_zero, List.set_cons_succ]
      refine sread (v := ?vo1) rfl rfl ?ho1 ?ro1
      case ho1 => (intro W hW; first | (go_simp; done) | (go_simp; with_reducible rfl))
      simp only [Act.put, List.setIfInBounds_toArray, List.set_cons_zero, List.set_cons_succ]
      refine sread (v := ?vo2) rfl rfl ?ho2 ?ro2
      case ho2 => (intro W hW; first | (go_simp; done) | (go_simp; with_reducible rfl))
      simp only [Act.put, List.setIfInBounds_toArray, List.set_cons_zero, List.set_cons_succ]
      refine sread (v := ?vo3) rfl rfl ?ho3 ?ro3
      case ho3 => (intro W hW; first | (go_simp; done) | (go_simp; with_reducible rfl))
      simp only [Act.put, List.setIfInBounds_toArray, List.set_cons_zero, List.set_cons_succ]
      refine sread (v := ?vo4) rfl rfl ?ho4 ?ro4
      case ho4 => (intro W hW; first | (go_simp; done) | (go_simp; with_reducible rfl))
      simp only [Act.put, List.setIfInBounds_toArray, List.set_cons_zero, List.set_cons_succ]
      refine sread (v := ?vo5) rfl rfl ?ho5 ?ro5
      case ho5 => (intro W hW; first | (go_simp; done) | (go_simp; with_reducible rfl))
      simp only [Act.put, List.setIfInBounds_toArray, List.set_cons_zero, List.set_cons_succ]
      refine sread (v := ?vo6) rfl rfl ?ho6 ?ro6
      case ho6 => (intro W hW; first | (go_simp; done) | (go_simp; with_reducible rfl))
      simp only [Act.put, List.setIfInBounds_toArray, List.set_cons_zero, List.set_cons_succ]
      refine sread (v := ?vo7) rfl rfl ?ho7 ?ro7
      case ho7 => (intro W hW; first | (go_simp; done) | (go_simp; with_reducible rfl))
      simp only [Act.put, List.setIfInBounds_toArray, List.set_cons_zero, List.set_cons_succ]
      refine sread (v := ?vo8) rfl rfl ?ho8 ?ro8
      case ho8 => (intro W hW; first | (go_simp; done) | (go_simp; with_reducible rfl))
      simp only [Act.put, List.setIfInBounds_toArray, List.set_cons_zero, List.set_cons_succ]
      refine sread (v := ?vo9) rfl rfl ?ho9 ?ro9
      case ho9 => (intro W hW; first | (go_simp; done) | (go_simp; with_reducible rfl))
      simp only [Act.put, List.setIfInBounds_toArray, List.set_cons_zero, List.set_cons_succ]
      refine sread (v := ?vo10) rfl rfl ?ho10 ?ro10
      case ho10 => (intro W hW; first | (go_simp; done) | (go_simp; with_reducible rfl))
      simp only [Act.put, List.setIfInBounds_toArray, List.set_cons_zero, List.set_cons_succ]
      refine sread (v := ?vo11) rfl rfl ?ho11 ?ro11
      case ho11 => (intro W hW; first | (go_simp; done) | (go_simp; with_reducible rfl))
      simp only [Act.put, List.setIfInBounds_toArray, List.set_cons_zero, List.set_cons_succ]
      refine sread (v := ?vo12) rfl rfl ?ho12 ?ro12
      case ho12 => (intro W hW; first | (go_simp; done) | (go_simp; with_reducible rfl))
      simp only [Act.put, List.setIfInBounds_toArray, List.set_cons_zero, List.set_cons_succ]
      refine sread (v := ?vo13) rfl rfl ?ho13 ?ro13
      case ho13 => (intro W hW; first | (go_simp; done) | (go_simp; with_reducible rfl))
      simp only [Act.put, List.setIfInBounds_toArray, List.set_cons_zero, List.set_cons_succ]
      refine sread (v := ?vo14) rfl rfl ?ho14 ?ro14
      case ho14 => (intro W hW; first | (go_simp; done) | (go_simp; with_reducible rfl))
      simp only [Act.put, List.setIfInBounds_toArray, List.set_cons_zero, List.set_cons_succ]
      refine sread (v := ?vo15) rfl rfl ?ho15 ?ro15
      case ho15 => (intro W hW; first | (go_simp; done) | (go_simp; with_reducible rfl))
      simp only [Act.put, List.setIfInBounds_toArray, List.set_cons_zero, List.set_cons_succ]
      refine sread (v := ?vo16) rfl rfl ?ho16 ?ro16
      case ho16 => (intro W hW; first | (go_simp; done) | (go_simp; with_reducible rfl))
      simp only [Act.put, List.setIfInBounds_toArray, List.set_cons_zero, List.set_cons_succ]
      refine sread (v := ?vo17) rfl rfl ?ho17 ?ro17
      case ho17 => (intro W hW; first | (go_simp; done) | (go_simp; with_reducible rfl))
      simp only [Act.put, List.setIfInBounds_toArray, List.set_cons_zero, List.set_cons_succ]
      refine sskip rfl rfl ?_
      simp only [Act.put, List.setIfInBounds_toArray, List.set_cons_zero, List.set_cons_succ]
      refine sskip rfl rfl ?_
      simp only [Act.put, List.setIfInBounds_toArray, List.set_cons_zero, List.set_cons_succ]
      refine sskip rfl rfl ?_
      simp only [Act.put, List.setIfInBounds_toArray, List.set_cons_zero, List.set_cons_succ]
      refine sskip rfl rfl ?_
      simp only [Act.put, List.setIfInBounds_toArray, List.set_cons_zero, List.set_cons_succ]
      refine sskip rfl rfl ?_
      simp only [Act.put, List.setIfInBounds_toArray, List.set_cons_zero, List.set_cons_succ]
      refine sskip rfl rfl ?_
      simp only [Act.put, List.setIfInBounds_toArray, List.set_cons_zero, List.set_cons_succ]
      refine sskip rfl rfl ?_
      simp only [Act.put, List.setIfInBounds_toArray, List.set_cons_zero, List.set_cons_succ]
      refine sskip rfl rfl ?_
      simp only [Act.put, List.setIfInBounds_toArray, List.set_cons_zero, List.set_cons_succ]
      refine sskip rfl rfl ?_
      simp only [Act.put, List.setIfInBounds_toArray, List.set_cons_zero, List.set_cons_succ]
      refine sskip rfl rfl ?_
      simp only [Act.put, List.setIfInBounds_toArray, List.set_cons_zero, List.set_cons_succ]
      refine sskip rfl rfl ?_
      simp only [Act.put, List.setIfInBounds_toArray, List.set_cons_zero, List.set_cons_succ]
      refine sskip rfl rfl ?_
      simp only [Act.put, List.setIfInBounds_toArray, List.set_cons_zero, List.set_cons_succ]
      refine sskip rfl rfl ?_
      simp only [Act.put, List.setIfInBounds_toArray, List.set_cons_zero, List.set_cons_succ]
      refine sskip rfl rfl ?_
      simp only [Act.put, List.setIfInBounds_toArray, List.set_cons_zero, List.set_cons_succ]
      refine sskip rfl rfl ?_
      simp only [Act.put, List.setIfInBounds_toArray, List.set_cons_zero, List.set_cons_succ]
      refine sread (v := ?vo33) rfl rfl ?ho33 ?ro33
      case ho33 => (intro W hW; first | (go_simp; done) | (go_simp; with_reducible rfl))
      simp only [Act.put, List.setIfInBounds_toArray, List.set_cons_zero, List.set_cons_succ]
      refine sread (v := ?vo34) rfl rfl ?ho34 ?ro34
      case ho34 => (intro W hW; first | (go_simp; done) | (go_simp; with_reducible rfl))
      simp only [Act.put, List.setIfInBounds_toArray, List.set_cons_zero, List.set_cons_succ]
      refine sdone ?_
      go_wp2_with fail
      refine (sum_any A m c' _ l _ hr.drew (by omega)).mono ?_; rintro e w2 ⟨rfl, rfl⟩
      go_wp2_with fail
      refine (refSum_any A m c' _ l _ hr.drew (by omega)).mono ?_; rintro e w2 ⟨rfl, rfl⟩
      go_wp2_with fail
      refine (lives_any _).mono ?_; rintro e w7 ⟨rfl, b7⟩
      go_wp2_with fail
      go_ret
      exact ⟨rfl, (Below.refl _ _).drew.trans (b7.mono (Nat.le_refl _))⟩
end Go.Proofs.Ytmejkfhjkafmlaa.octetsWords
