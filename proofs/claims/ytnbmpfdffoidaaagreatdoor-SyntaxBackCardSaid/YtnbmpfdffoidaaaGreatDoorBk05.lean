/- Texts of the proof, joined: LexPass, LexNum, LexSign, ValFns2, ShelfStr, Builder, ValText. -/
import Derived.Test.YtnbmpfdffoidaaaGreatDoorBk01
import Derived.Test.YtnbmpfdffoidaaaGreatDoorBk04
import Derived.StillTailTactics
import Derived.Shelf.Strings.Builder1
import Derived.Shelf.Strings.Builder2
import Derived.Shelf.Strings.OnBuilder
import Derived.Shelf.Small.Strs
import Derived.Shelf.Small.Wraps
import Derived.Shelf.Strings.BuilderF
import Derived.Shelf.Strings.BuilderK
import Derived.Shelf.Strconv.Itoa0
import Derived.Shelf.Strings.Prefix
import Derived.Shelf.Slices.Equal
import Derived.Test.YtnbmpfdffoidaaaGreatDoorProg
import Derived.Lib.Builder
set_option linter.unusedVariables false
set_option linter.unusedSimpArgs false
set_option maxHeartbeats 8000000
set_option maxRecDepth 100000
namespace Go.Proofs.YtnbmpfdffoidaaaGreatDoor.X
open Go.RowKit O V S
theorem cut_at (s : List UInt8) (i n m : Nat) (h : m = i + n) : (ByteArray.mk s.toArray).extract i m = ⟨((s.drop i).take n).toArray⟩ := by
 subst h
 apply ByteArray.ext
 simp [List.extract_eq_take_drop, List.take_drop]
theorem last_cases (u : List UInt8) : (Lib.lastIndexByte ⟨u.toArray⟩ 10 = -1 ∧ ∀ j, j < u.length → (u.getD j 0).toNat ≠ 10) ∨ ∃ p : Nat, p < u.length ∧ Lib.lastIndexByte ⟨u.toArray⟩ 10 = p ∧ (u.getD p 0).toNat = 10 ∧ ∀ j, p < j → j < u.length → (u.getD j 0).toNat ≠ 10 := by
 have hsz : (ByteArray.mk u.toArray).size = u.length := by simp [ByteArray.size]
 have hg : ∀ j, j < u.length → (ByteArray.mk u.toArray).data[j]! = u.getD j 0 := fun j hj => by simp [List.getD_eq_getElem?_getD, hj]
 rcases Lib.lastIdx_spec ⟨u.toArray⟩ 10 (ByteArray.mk u.toArray).size with ⟨h1, h2⟩ | ⟨p, hp, h1, h2, h3⟩
 ·refine .inl ⟨h1, fun j hj => ?_⟩
  have := h2 j (by omega)
  rw [hg j hj] at this
  omega
 ·rw [hsz] at hp
  refine .inr ⟨p, hp, h1, ?_, fun j hj1 hj2 => ?_⟩
  ·rw [hg p hp] at h2; omega
  ·have := h3 j hj1 (by omega)
   rw [hg j hj2] at this
   omega
theorem getD_cut {s : List UInt8} {i n j : Nat} (h : i + n ≤ s.length) (hj : j < n) : ((s.drop i).take n).getD j 0 = s.getD (i + j) 0 := by
 simp [List.getD_eq_getElem?_getD, List.getElem?_take, hj]
theorem pass_any (g : Nat) (s : List UInt8) (i n : Nat) (w : World) (h : Lx w g s i) (hin : i + n ≤ s.length) : Calls Tryz.prog 78 #[.pointer (some ⟨g, 0, none⟩), .int .i64 (n : Int)] w fun e w' => e = .returned (.string ⟨((s.drop i).take n).toArray⟩) ∧ Lx w' g s (i + n) ∧ w.grownBy w' (some g) := by
 have hn := h.n
 have HL := Lib.hid h
 have hgl := h.lt
 have hsz : (ByteArray.mk s.toArray).size = s.length := by simp [ByteArray.size]
 obtain ⟨m, hm⟩ : ∃ m, m = i + n := ⟨_, rfl⟩
 have hwr : IntKind.i64.wrap ((i : Int) + (n : Int)) = (m : Int) := by rw [IntWalk.i64_in _ (by omega)]; omega
 have hcut := cut_at s i n m hm
 have hline := line_add s i n hin
 have hlast := last_cases ((s.drop i).take n)
 have hul : ((s.drop i).take n).length = n := by simp; omega
 have hgd := fun j hj => getD_cut (s := s) (i := i) (n := n) (j := j) hin hj
 rw [hul] at hlast
 have hle := lineOf_le s i
 have hle2 := lineOf_le s (i + n)
 have hse := startOf_le s i
 have hstart : (Lib.lastIndexByte ⟨((s.drop i).take n).toArray⟩ 10 = -1 ∧ startOf s (i + n) = startOf s i ∧ lineOf s (i + n) = lineOf s i) ∨ ∃ p : Nat, p < n ∧ Lib.lastIndexByte ⟨((s.drop i).take n).toArray⟩ 10 = p ∧ startOf s (i + n) = i + p + 1 := by
  rcases hlast with ⟨h1, h2⟩ | ⟨p, hp, h1, h2, h3⟩
  ·refine .inl ⟨h1, start_no s i n (fun j hj1 hj2 => ?_), ?_⟩
   ·have := h2 (j - i) (by omega)
    rwa [hgd _ (by omega), show i + (j - i) = j by omega] at this
   ·rw [hline, List.count_eq_zero_of_not_mem]
    ·rfl
    ·intro hmem
     obtain ⟨j, hj, e⟩ := List.getElem_of_mem hmem
     have := h2 j (by omega)
     rw [List.getD_eq_getElem?_getD, List.getElem?_eq_getElem hj] at this
     exact this ((ten_iff _).2 e)
  ·refine .inr ⟨p, hp, h1, start_at s i p n hp (by rw [← hgd p hp]; exact h2) (fun j hj1 hj2 => by rw [← hgd j hj2]; exact h3 j hj1 hj2)⟩
 have hmi : m ≤ s.length := by omega
 have him : i ≤ m := by omega
 have HLn := Lib.hid hline
 have HS := Lib.hid hstart
 have HM := Lib.hid hm
 clear h hline hlast hgd hstart hm hle2
 generalize (s.drop i).take n = u at hcut HLn HS hul
 go_enter Tryz.func78, Tryz.ntmps78
 go_wp2_with fail
 refine wp_region_sched [(0, true), (1, true), (2, true), (3, true), (4, true), (5, true), (6, true), (7, true), (8, true), (9, true), (10, true), (11, true), (12, true), (13, true), (14, true), (15, true), (16, true), (17, true)] (by kernel_rfl) (by kernel_rfl) (fun _ _ d _ _ h => by cases d <;> exact h) ?_
 refine swith (fun W hW => (cells4 (HL.out.next ((Below.refl _ _).drew.trans (hW.out.mono (Nat.le_refl _)))).box)) (fun q => ?_)
 repeat (first | (refine sreadx rfl rfl ?_; apply Exists.intro; apply And.intro; (· (intro W hW; go_simp; try (first | with_reducible rfl | (rw [if_neg (by omega)]; try with_reducible rfl)))); simp only [Act.put, List.setIfInBounds_toArray, List.set_cons_zero, List.set_cons_succ]) | (refine sskip rfl rfl ?_; simp only [Act.put, List.setIfInBounds_toArray, List.set_cons_zero, List.set_cons_succ]))
 refine sdone ?_
 clear q
 have L1 := Lib.hid (HL.out.next (Below.refl _ _).drew)
 obtain ⟨⟨x0, x1⟩, x2, x3⟩ := cells4 L1.out.box
 have f0 := Lib.frozen_of_heap L1.out.box 0
 have f1 := Lib.frozen_of_heap L1.out.box 1
 have f2 := Lib.frozen_of_heap L1.out.box 2
 go_wp2_with fail
 refine (Tryz.strings_LastIndexByte ⟨u.toArray⟩ 10 (by simp [ByteArray.size]; omega) _).mono ?_; rintro e w2 ⟨rfl, rfl⟩
 rcases HS.out with ⟨h1, h2, h3⟩ | ⟨p, hp, h1, h2⟩
 ·rw [h1]
  go_wp2_with fail
  go_ret
  refine ⟨rfl, ⟨?_, by have := HM.out; omega, hn⟩, gb_trans (gb_below (Below.refl _ _).drew _) (gb_set _ _ _ _)⟩
  have := heap_set (i := 0) L1.out.box (.int .i64 (m : Int))
  rw [h2, h3, show i + n = m from HM.out.symm]
  exact this
 ·rw [h1]
  have hcnt := List.count_le_length (a := (10 : UInt8)) (l := u)
  obtain ⟨k, hk⟩ : ∃ k, u.count 10 = k := ⟨_, rfl⟩
  rw [hk] at HLn hcnt
  have hkk : Lib.countByte (ByteArray.mk u.toArray).data.toList 10 = k := by simpa [Lib.countByte] using hk
  have HKK := Lib.hid hkk
  obtain ⟨ln, hln⟩ : ∃ ln, lineOf s i = ln := ⟨_, rfl⟩
  have hwl : IntKind.i64.wrap ((ln : Int) + (k : Int)) = ((ln : Int) + (k : Int)) := IntWalk.i64_in _ (by omega)
  rw [hln] at x1
  clear hk hkk
  go_wp2_with fail
  refine wp_region_still_tail 11 (by kernel_rfl) (by kernel_rfl) ?_
  have L2 := Lib.hid (L1.out.next (Below.refl _ _).drew)
  have G2 : Hid (w.grownBy w.drew.drew (some g)) := Lib.hid (gb_below (Below.refl _ _).drew.drew _)
  change wpStill _ _ (w.drew.drew) (fun a' => wpList _ _ _ _ a' (w.drew.drew)) _ _
  clear x0 x1 x2 x3 f0 f1 f2 L1
  generalize w.drew.drew = w2 at *
  obtain ⟨⟨x0, x1⟩, x2, x3⟩ := cells4 L2.out.box
  rw [hln] at x1
  have f0 := Lib.frozen_of_heap L2.out.box 0
  have f1 := Lib.frozen_of_heap L2.out.box 1
  have f2 := Lib.frozen_of_heap L2.out.box 2
  simp only [List.take_succ_cons, List.take_zero, List.drop_succ_cons, List.drop_zero]
  repeat still_step
  still_call (Tryz.strings_Count_one ⟨u.toArray⟩ 10 _)
  rw [HKK.out]
  repeat still_step
  refine wpStill_nil ?_
  go_wp2_with fail
  go_ret
  refine ⟨rfl, ⟨?_, by have := HM.out; omega, hn⟩, gb_trans G2.out (gb_trans (gb_trans (gb_set _ _ _ _) (gb_set _ _ _ _)) (gb_set _ _ _ _))⟩
  have := heap_set (i := 0) (heap_set (i := 2) (heap_set (i := 1) L2.out.box (.int .i64 ((ln : Int) + (k : Int)))) (.int .i64 ((i : Int) + (p : Int) + 1))) (.int .i64 (m : Int))
  have e2 : ((lineOf s (i + n) : Nat) : Int) = (ln : Int) + (k : Int) := by rw [HLn.out, hln]; omega
  have e3 : ((startOf s (i + n) : Nat) : Int) = (i : Int) + (p : Int) + 1 := by rw [h2]; omega
  rw [e2, e3, show i + n = m from HM.out.symm]
  exact this
def offW (w : World) (g : Nat) : Nat := match w.cell? ⟨g, 0, none⟩ with
 | some (.int _ n) => n.toNat
 | _ => 0
theorem Lx.off {w : World} {g : Nat} {s : List UInt8} {i : Nat} (h : Lx w g s i) : offW w g = i := by
 unfold offW
 rw [(cells4 h.box).1.1]
 simp
theorem drop_take_len {s : List UInt8} {i : Nat} (p : UInt8 → Bool) (h : i ≤ s.length) : i + runLen p (s.drop i) ≤ s.length := by
 have := runLen_le p (s.drop i)
 simp at this
 omega
theorem skip_at_blank {s : List UInt8} {i : Nat} : skip (s.drop (i + runLen blankC (s.drop i))) = skip (s.drop i) := by
 rw [← List.drop_drop, drop_run, skip_while]
theorem skip_at_note {s : List UInt8} {i : Nat} (hi : i < s.length) (h : (s[i]).toNat = 35) : skip (s.drop (i + runLen noteC (s.drop i))) = skip (s.drop i) ∧ 0 < runLen noteC (s.drop i) := by
 have e : s.drop i = s[i] :: s.drop (i + 1) := List.drop_eq_getElem_cons hi
 have hn : noteC s[i] = true := by unfold noteC; simp; omega
 constructor
 ·rw [← List.drop_drop, drop_run, e, skip_note _ h, List.dropWhile_cons, if_pos hn]
 ·rw [e]; unfold runLen; rw [if_pos hn]; omega
theorem run_stop (p : UInt8 → Bool) : ∀ (t : List UInt8) (h : runLen p t < t.length), p (t[runLen p t]) = false
  | [], h => by simp [runLen] at h
  | c :: r, h => by
    by_cases hc : p c = true
    · have e : runLen p (c :: r) = runLen p r + 1 := by conv => lhs; unfold runLen
                                                        rw [if_pos hc]
      have h' : runLen p r < r.length := by rw [e] at h; simpa using h
      have := run_stop p r h'
      simp only [e, List.getElem_cons_succ]
      exact this
    · have e : runLen p (c :: r) = 0 := by unfold runLen; rw [if_neg hc]
      simp only [e, List.getElem_cons_zero]
      simpa using hc
theorem gap_any (g : Nat) (s : List UInt8) (i : Nat) (w : World) (h : Lx w g s i) : Calls Tryz.prog 41 #[.pointer (some ⟨g, 0, none⟩)] w fun e w' => e = .returned (.tuple #[]) ∧ Lx w' g s (s.length - (skip (s.drop i)).length) ∧ w.grownBy w' (some g) := by
 have hn := h.n
 have HL := Lib.hid h
 have hsz : (ByteArray.mk s.toArray).size = s.length := by simp [ByteArray.size]
 clear h
 go_enter Tryz.func41, Tryz.ntmps41
 go_wp2_with fail
 go_loopw [] (fun wr => ∃ j : Nat, Hid (skip (s.drop j) = skip (s.drop i)) ∧ Lx wr g s j ∧ w.grownBy wr (some g)) (fun wr => s.length - offW wr g)
 case atStart => exact ⟨i, Lib.hid rfl, HL.out, gb_below (Below.refl _ _) _⟩
 case round =>
  obtain ⟨j, hj, hL, hG⟩ := hrel
  have hof := Lib.hid hL.off
  have hji := hL.i
  have H0 := Lib.hid hL
  have G0 := Lib.hid hG
  clear hL hG
  go_wp2_with fail
  refine (run_blank g s j _ H0.out).mono ?_; rintro e w1 ⟨rfl, b1⟩
  have L1 := Lib.hid (H0.out.next b1)
  have G1 := Lib.hid (gb_trans G0.out (gb_below b1 (some g)))
  have hk := drop_take_len blankC hji
  have hst : Hid (∀ hh : j + runLen blankC (s.drop j) < s.length, blankC s[j + runLen blankC (s.drop j)] = false) := Lib.hid (fun hh => by
   have h1 : runLen blankC (s.drop j) < (s.drop j).length := by simp; omega
   have := run_stop blankC (s.drop j) h1
   simpa using this)
  have hsk := Lib.hid ((skip_at_blank (s := s) (i := j)).trans hj.out)
  generalize runLen blankC (s.drop j) = k1 at *
  clear b1
  go_wp2_with fail
  refine (pass_any g s j k1 _ L1.out hk).mono ?_; rintro e w2 ⟨rfl, l2, g2⟩
  have L2 := Lib.hid l2
  have G2 := Lib.hid (gb_trans G1.out g2)
  clear l2 g2 L1 G1
  obtain ⟨j1, hj1⟩ : ∃ j1, j + k1 = j1 := ⟨_, rfl⟩
  rw [hj1] at hk hst hsk L2
  by_cases hend : j1 = s.length
  ·have d1 : ((j1 : Int) == (s.length : Int)) = true := by simp; omega
   have hres : Hid (s.length - (skip (s.drop i)).length = j1) := Lib.hid (by
    rw [← hsk.out, hend, List.drop_length, skip_nil]; simp)
   have HE := Lib.hid hend
   clear hend hj1
   go_wp2_with fail
   refine wp_region_sched [(0, true), (1, true), (2, true), (3, true), (4, true), (5, true), (6, true), (7, true), (8, true), (9, true), (10, true), (11, true), (12, true), (13, true), (14, true), (15, true), (16, true), (17, true), (18, true), (19, true), (20, true), (21, true), (22, true), (23, true)] (by kernel_rfl) (by kernel_rfl) (fun _ _ d _ _ h => by cases d <;> exact h) ?_
   refine swith (fun W hW => (cells4 (L2.out.next ((Below.refl _ _).drew.trans (hW.out.mono (Nat.le_refl _)))).box)) (fun q => ?_)
   repeat (first | (refine sreadx rfl rfl ?_; apply Exists.intro; apply And.intro; (· (intro W hW; go_simp; try (first | with_reducible rfl | (rw [if_neg (by omega)]; try with_reducible rfl)))); simp only [Act.put, List.setIfInBounds_toArray, List.set_cons_zero, List.set_cons_succ]) | (refine sskip rfl rfl ?_; simp only [Act.put, List.setIfInBounds_toArray, List.set_cons_zero, List.set_cons_succ]))
   refine sdone ?_
   clear q
   go_wp2_with fail
   first | go_end0 | refine bodyPost_ret (results_none rfl _ _ _) rfl ?_
   exact ⟨rfl, by rw [hres.out]; exact L2.out.next (Below.refl _ _).drew, gb_trans G2.out (gb_below (Below.refl _ _).drew _)⟩
  ·have d1 : ((j1 : Int) == (s.length : Int)) = false := by simp; omega
   have hlt : j1 < s.length := by omega
   have hnb := hst.out hlt
   have hnote : Hid ((s[j1]).toNat = 35 → skip (s.drop (j1 + runLen noteC (s.drop j1))) = skip (s.drop i) ∧ 0 < runLen noteC (s.drop j1)) := Lib.hid (fun h35 => by
    have := skip_at_note hlt h35
    exact ⟨this.1.trans hsk.out, this.2⟩)
   have hres : Hid ((s[j1]).toNat ≠ 35 → s.length - (skip (s.drop i)).length = j1) := Lib.hid (fun h35 => by
    rw [← hsk.out, List.drop_eq_getElem_cons hlt, skip_stop _ hnb h35]
    simp; omega)
   generalize hc : s[j1] = c at hnote hres hnb
   have hx := ba_at s j1 hlt hc
   clear hc hnb hend hst
   by_cases h35 : c.toNat = 35
   ·have e1 : ((c.toNat : Int) != 35) = false := by simp; omega
    have e1' : ((c.toNat : Int) == 35) = true := by simp; omega
    obtain ⟨hn1, hn2⟩ := hnote.out h35
    have HN1 := Lib.hid hn1
    have H35 := Lib.hid h35
    have HJ := Lib.hid hj1
    have hj1' : j + k1 ≤ j1 := by omega
    have hjj : j ≤ j1 := by omega
    clear hn1 h35 hj1
    go_wp2_with fail
    refine wp_region_sched [(0, true), (1, true), (2, true), (3, true), (4, true), (5, true), (6, true), (7, true), (8, true), (9, true), (10, true), (11, true), (12, true), (13, true), (14, true), (15, true), (16, true), (17, true), (18, true), (19, true), (20, true), (21, true), (22, true), (23, true)] (by kernel_rfl) (by kernel_rfl) (fun _ _ d _ _ h => by cases d <;> exact h) ?_
    refine swith (fun W hW => (cells4 (L2.out.next ((Below.refl _ _).drew.trans (hW.out.mono (Nat.le_refl _)))).box)) (fun q => ?_)
    repeat (first | (refine sreadx rfl rfl ?_; apply Exists.intro; apply And.intro; (· (intro W hW; go_simp; try (first | with_reducible rfl | (rw [if_neg (by omega)]; try with_reducible rfl)))); simp only [Act.put, List.setIfInBounds_toArray, List.set_cons_zero, List.set_cons_succ]) | (refine sskip rfl rfl ?_; simp only [Act.put, List.setIfInBounds_toArray, List.set_cons_zero, List.set_cons_succ]))
    refine sdone ?_
    clear q
    have L3 := Lib.hid (L2.out.next (Below.refl _ _).drew)
    have G3 := Lib.hid (gb_trans G2.out (gb_below (Below.refl _ _).drew (some g)))
    go_wp2_with fail
    refine (run_note g s j1 _ L3.out).mono ?_; rintro e w4 ⟨rfl, b4⟩
    have L4 := Lib.hid (L3.out.next b4)
    have G4 := Lib.hid (gb_trans G3.out (gb_below b4 (some g)))
    have hk4 := drop_take_len noteC (Nat.le_of_lt hlt)
    generalize runLen noteC (s.drop j1) = k2 at *
    clear b4 L3 G3
    go_wp2_with fail
    refine (pass_any g s j1 k2 _ L4.out hk4).mono ?_; rintro e w5 ⟨rfl, l5, g5⟩
    have L5 := Lib.hid l5
    have G5 := Lib.hid (gb_trans G4.out g5)
    clear l5 g5 L4 G4
    go_wp2_with fail
    go_roundw
    case rel => exact ⟨j1 + k2, HN1, L5.out, G5.out⟩
    case measure => rw [L5.out.off, hof.out]; omega
   ·have e1 : ((c.toNat : Int) != 35) = true := by simp; omega
    have e1' : ((c.toNat : Int) == 35) = false := by simp; omega
    have hr := Lib.hid (hres.out h35)
    have HJ := Lib.hid hj1
    clear h35 hj1
    go_wp2_with fail
    refine wp_region_sched [(0, true), (1, true), (2, true), (3, true), (4, true), (5, true), (6, true), (7, true), (8, true), (9, true), (10, true), (11, true), (12, true), (13, true), (14, true), (15, true), (16, true), (17, true), (18, true), (19, true), (20, true), (21, true), (22, true), (23, true)] (by kernel_rfl) (by kernel_rfl) (fun _ _ d _ _ h => by cases d <;> exact h) ?_
    refine swith (fun W hW => (cells4 (L2.out.next ((Below.refl _ _).drew.trans (hW.out.mono (Nat.le_refl _)))).box)) (fun q => ?_)
    repeat (first | (refine sreadx rfl rfl ?_; apply Exists.intro; apply And.intro; (· (intro W hW; go_simp; try (first | with_reducible rfl | (rw [if_neg (by omega)]; try with_reducible rfl)))); simp only [Act.put, List.setIfInBounds_toArray, List.set_cons_zero, List.set_cons_succ]) | (refine sskip rfl rfl ?_; simp only [Act.put, List.setIfInBounds_toArray, List.set_cons_zero, List.set_cons_succ]))
    refine sdone ?_
    clear q
    go_wp2_with fail
    first | go_end0 | refine bodyPost_ret (results_none rfl _ _ _) rfl ?_
    exact ⟨rfl, by rw [hr.out]; exact L2.out.next (Below.refl _ _).drew, gb_trans G2.out (gb_below (Below.refl _ _).drew _)⟩
end Go.Proofs.YtnbmpfdffoidaaaGreatDoor.X
namespace Go.Proofs.YtnbmpfdffoidaaaGreatDoor.X
open Go.RowKit O V S
theorem numV_step {l : List UInt8} {k : Nat} (h : k < l.length) : numV (l.take (k + 1)) = 10 * numV (l.take k) + (l[k].toNat - 48) := by
 unfold numV
 rw [List.take_succ_eq_append_getElem h, List.foldl_append]
 rfl
theorem numV_mono : ∀ (b : List UInt8) (n : Nat), n ≤ b.foldl (fun n c => 10 * n + (c.toNat - 48)) n
 | [], n => Nat.le_refl n
 | c :: r, n => by
  have := numV_mono r (10 * n + (c.toNat - 48))
  rw [List.foldl_cons]; omega
theorem numV_take (l : List UInt8) (k : Nat) (h : k < l.length) : 10 * numV (l.take k) ≤ numV l := by
 have h1 : numV (l.take (k + 1)) ≤ numV l := by
  have := numV_mono (l.drop (k + 1)) (numV (l.take (k + 1)))
  unfold numV at this ⊢
  rw [← List.foldl_append, List.take_append_drop] at this
  exact this
 rw [numV_step h] at h1
 omega
theorem num10 (n : Nat) (c : UInt8) (hd : digitC c = true) : 10 * (n : Int) + ((c.toNat : Int) - 48) % 256 = ((10 * n + (c.toNat - 48) : Nat) : Int) := by
 have := c.toNat_lt
 simp only [digitC, Bool.and_eq_true, decide_eq_true_eq] at hd
 omega
theorem lnum_any (l : List UInt8) (w : World) (hl : 0 < l.length) (hd : ∀ k (h : k < l.length), digitC l[k] = true) (hn : l.length ≤ 20000) : Calls Tryz.prog 86 #[.string ⟨l.toArray⟩] w fun e w' => w = w' ∧ ∃ k : Int, e = .returned (.tuple #[.int .i64 k, .bool (numOk l)]) ∧ (numOk l = true → k = (numV l : Nat)) := by
 have hsz : (ByteArray.mk l.toArray).size = l.length := by simp [ByteArray.size]
 go_enter Tryz.func86, Tryz.ntmps86
 go_wp2_with fail
 go_loop [2, 3, 4, 8] (fun r f v i => ∃ k : Nat, k ≤ l.length ∧ i = .int .i64 k ∧ v = .int .u64 (numV (l.take k) : Nat) ∧ numV (l.take k) ≤ 9223372036854775809) (fun _ _ _ i => l.length - (intOf i).toNat)
 case atStart => exact ⟨0, by omega, rfl, by simp [numV], by simp [numV]⟩
 case round =>
  obtain ⟨k, hk, rfl, rfl, hv⟩ := hrel
  by_cases hlt : k < l.length
  ·have hst := Lib.hid (numV_step hlt)
   have htk := Lib.hid (numV_take l k hlt)
   have hdk := hd k hlt
   obtain ⟨c, hc⟩ : ∃ c, l[k] = c := ⟨_, rfl⟩
   rw [hc] at hst hdk
   have hx := ba_at l k hlt hc
   clear hc
   generalize numV (l.take k) = n at *
   by_cases hg : n ≤ 922337203685477580
   ·have d1 : decide ((n : Int) > 922337203685477580) = false := by simp; omega
    have d2 : decide (922337203685477580 < (n : Int)) = false := by simp; omega
    have hw := Lib.hid (num10 n c hdk)
    have hcl : c.toNat - 48 ≤ 9 := by simp only [digitC, Bool.and_eq_true, decide_eq_true_eq] at hdk; omega
    have hbd : Hid (10 * n + (c.toNat - 48) ≤ 9223372036854775809) := Lib.hid (by omega)
    clear hd hdk
    go_wp2_with fail
    go_round
    case rel => exact ⟨k + 1, by omega, by go_num, by rw [hst.out, ← hw.out], by rw [hst.out]; exact hbd.out⟩
    case measure => simp [intOf]; omega
   ·have d1 : decide ((n : Int) > 922337203685477580) = true := by simp; omega
    have d2 : decide (922337203685477580 < (n : Int)) = true := by simp; omega
    have hno : Hid (numOk l = false) := Lib.hid (by unfold numOk; have := htk.out; simp; intro h; omega)
    clear hd hdk
    go_wp2_with fail
    go_ret2
    exact ⟨rfl, 0, by rw [hno.out]; rfl, by rw [hno.out]; intro h; cases h⟩
  ·obtain rfl : k = l.length := by omega
   rw [List.take_length] at hv
   rw [List.take_length]
   obtain ⟨c, hc⟩ : ∃ c, l[0] = c := ⟨_, rfl⟩
   have hx := ba_at l 0 hl hc
   have hok : Hid (numOk l = (decide (numV l < 9223372036854775808) && (decide (c.toNat ≠ 48) || decide (l.length = 1)))) := Lib.hid (by
    unfold numOk
    rw [List.getD_eq_getElem?_getD, List.getElem?_eq_getElem hl, hc]; rfl)
   obtain ⟨n, hnn⟩ : ∃ n, numV l = n := ⟨_, rfl⟩
   rw [hnn] at hv hok
   rw [hnn]
   have HN := Lib.hid hnn
   clear hd hnn hc
   have e1 : ((c.toNat : Int) != 48) = decide (c.toNat ≠ 48) := by rw [Bool.eq_iff_iff]; simp; omega
   have e1' : ((c.toNat : Int) == 48) = !decide (c.toNat ≠ 48) := by rw [Bool.eq_iff_iff]; simp; omega
   have e2 : ((l.length : Int) == 1) = decide (l.length = 1) := by rw [Bool.eq_iff_iff]; simp; omega
   have e3 : decide ((n : Int) < 9223372036854775808) = decide (n < 9223372036854775808) := by rw [Bool.eq_iff_iff]; simp; omega
   cases h1 : decide (n < 9223372036854775808)
   ·rw [h1] at e3 hok
    clear e1 e1' e2
    go_wp2_with fail
    go_ret2
    exact ⟨rfl, _, by rw [hok.out]; rfl, by rw [hok.out]; intro h; cases h⟩
   ·have hlt := of_decide_eq_true h1
    rw [h1] at e3 hok
    cases h2 : decide (c.toNat ≠ 48)
    ·rw [h2] at e1 e1' hok
     go_wp2_with fail
     go_ret2
     exact ⟨rfl, (n : Int), by rw [hok.out]; simp, fun _ => by rw [HN.out]⟩
    ·rw [h2] at e1 e1' hok
     clear e2
     go_wp2_with fail
     go_ret2
     exact ⟨rfl, (n : Int), by rw [hok.out]; rfl, fun _ => by rw [HN.out]⟩
def pv (o l c : Int) : Value := .agg #[.int .i64 o, .int .i64 l, .int .i64 c]
def plc (s : List UInt8) (i : Nat) : Value := pv i (lineOf s i) ((i : Int) - (startOf s i : Int) + 1)
theorem lint_any (n : Int) (w : World) : Calls Tryz.prog 52 #[.int .i64 n] w fun e w' => e = .returned (vv ⟨1, n, []⟩) ∧ Below w.heap.size w w' := by
 go_enter Tryz.func52, Tryz.ntmps52
 go_wp2_with fail
 refine bodyPost_ret (v := vv ⟨1, n, []⟩) (by simp [results, Tryz.results52, go_sem, vv]) rfl ?_
 refine ⟨rfl, ?_⟩
 repeat (first | (with_reducible exact Below.refl _ _) | (with_reducible assumption) | refine Below.setCell ?_ (by simp <;> omega) _ | refine Below.alloc ?_ (by simp <;> omega) _ | refine Below.drew ?_)
theorem ltext_any (s : List UInt8) (w : World) : Calls Tryz.prog 88 #[.string ⟨s.toArray⟩] w fun e w' => e = .returned (vv ⟨3, 0, s⟩) ∧ Below w.heap.size w w' := by
 go_enter Tryz.func88, Tryz.ntmps88
 go_wp2_with fail
 refine bodyPost_ret (v := vv ⟨3, 0, s⟩) (by simp [results, Tryz.results88, go_sem, vv]) rfl ?_
 refine ⟨rfl, ?_⟩
 repeat (first | (with_reducible exact Below.refl _ _) | (with_reducible assumption) | refine Below.setCell ?_ (by simp <;> omega) _ | refine Below.alloc ?_ (by simp <;> omega) _ | refine Below.drew ?_)
theorem here_any (o l c : Nat) (w : World) (ho : o ≤ 20000) (hc : c ≤ 20000) : Calls Tryz.prog 82 #[pv o l c] w fun e w' => e = .returned (pv o l ((o : Int) - (c : Int) + 1)) ∧ Below w.heap.size w w' := by
 unfold pv
 go_enter Tryz.func82, Tryz.ntmps82
 go_wp2_with fail
 refine bodyPost_ret (v := pv o l ((o : Int) - (c : Int) + 1)) (by simp [results, Tryz.results82, go_sem, pv]) rfl ?_
 refine ⟨rfl, ?_⟩
 repeat (first | (with_reducible exact Below.refl _ _) | (with_reducible assumption) | refine Below.setCell ?_ (by simp <;> omega) _ | refine Below.alloc ?_ (by simp <;> omega) _ | refine Below.drew ?_)
def clampI (s : List UInt8) (off : Int) : Nat := if off < 0 then 0 else if (s.length : Int) < off then s.length else off.toNat
theorem clamp_le (s : List UInt8) (off : Int) : clampI s off ≤ s.length := by
 unfold clampI; split
 ·omega
 ·split <;> omega
theorem at_plain (s : List UInt8) (i : Nat) (hi : i ≤ s.length) : (1 + (Lib.countByte ((ByteArray.mk s.toArray).extract 0 i).data.toList 10 : Int) = (lineOf s i : Int)) ∧ ((i : Int) - Lib.lastIndexByte ((ByteArray.mk s.toArray).extract 0 i) 10 = (i : Int) - (startOf s i : Int) + 1) := by
 have hcut := cut_at s 0 i i (by omega)
 rw [hcut]
 have hline := line_add s 0 i (by omega)
 have hlast := last_cases ((s.drop 0).take i)
 have hul : ((s.drop 0).take i).length = i := by simp; omega
 have hgd := fun j hj => getD_cut (s := s) (i := 0) (n := i) (j := j) (by omega) hj
 constructor
 ·simp only [Lib.countByte]
  rw [Nat.zero_add] at hline
  rw [hline]
  simp [lineOf]
 ·rcases hlast with ⟨h1, h2⟩ | ⟨p, hp, h1, h2, h3⟩
  ·rw [h1]
   have := start_no s 0 i (fun j hj1 hj2 => by
    have := h2 j (by omega)
    rw [hgd _ (by omega)] at this
    simpa using this)
   rw [Nat.zero_add] at this
   rw [this]; simp [startOf]
  ·rw [h1]
   have := start_at s 0 p i (by omega) (by rw [← hgd p (by omega)]; exact h2) (fun j hj1 hj2 => by rw [← hgd j hj2]; exact h3 j hj1 (by omega))
   rw [Nat.zero_add] at this
   rw [this]; omega
theorem at_any (s : List UInt8) (off : Int) (w : World) (hs : s.length ≤ 20000) : Calls Tryz.prog 16 #[.string ⟨s.toArray⟩, .int .i64 off] w fun e w' => e = .returned (plc s (clampI s off)) ∧ Below w.heap.size w w' := by
 have hsz : (ByteArray.mk s.toArray).size = s.length := by simp [ByteArray.size]
 obtain ⟨i, hi⟩ : ∃ i, clampI s off = i := ⟨_, rfl⟩
 have hi2 := clamp_le s off
 rw [hi] at hi2
 have hcl : max 0 (min off (s.length : Int)) = (i : Int) := by
  rw [← hi]; unfold clampI
  split
  ·omega
  ·split <;> omega
 have HP := Lib.hid (at_plain s i hi2)
 rw [hi]
 have HI := Lib.hid hi
 clear hi
 go_enter Tryz.func16, Tryz.ntmps16
 go_wp2_with fail
 have hlo := lineOf_le s i
 have hso := startOf_le s i
 obtain ⟨h1, h2⟩ := HP.out
 obtain ⟨u, hu⟩ : ∃ u, (ByteArray.mk s.toArray).extract 0 i = u := ⟨_, rfl⟩
 have hus : u.size ≤ 20000 := by rw [← hu]; simp [ByteArray.size_extract]; omega
 rw [hu] at h1 h2
 rw [hu]
 obtain ⟨k, hk⟩ : ∃ k, Lib.countByte u.data.toList 10 = k := ⟨_, rfl⟩
 obtain ⟨q, hq⟩ : ∃ q : Int, Lib.lastIndexByte u 10 = q := ⟨_, rfl⟩
 rw [hk] at h1
 rw [hq] at h2
 have hk2 : k ≤ 20000 := by omega
 have hq1 : -1 ≤ q := by omega
 have hq2 : q ≤ 20000 := by omega
 have H1 := Lib.hid h1
 have H2 := Lib.hid h2
 clear h1 h2 hlo hso hu hcl
 refine (Tryz.strings_Count_one u 10 _).mono ?_; rintro e w1 ⟨rfl, rfl⟩
 rw [hk]
 go_wp2_with fail
 refine (Tryz.strings_LastIndex_one u ⟨#[10]⟩ rfl (by omega) _).mono ?_; rintro e w1 ⟨he, rfl⟩
 replace he : e = .returned (.int .i64 q) := he.trans (by rw [← hq]; rfl)
 subst he
 go_wp2_with fail
 refine bodyPost_ret (v := plc s i) (by simp [results, Tryz.results16, go_sem, plc, pv, ← H1.out, ← H2.out]) rfl ?_
 have H1 := H1.out
 have H2 := H2.out
 refine ⟨rfl, ?_⟩
 repeat (first | (with_reducible exact Below.refl _ _) | (with_reducible assumption) | refine Below.setCell ?_ (by simp <;> omega) _ | refine Below.alloc ?_ (by simp <;> omega) _ | refine Below.drew ?_)
end Go.Proofs.YtnbmpfdffoidaaaGreatDoor.X
namespace Go.Proofs.YtnbmpfdffoidaaaGreatDoor.X
open Go.RowKit O V S
def signB : List UInt8 := [123, 125, 40, 41, 91, 93, 59, 44, 46, 61, 60, 43, 45, 42, 47, 37, 33]
def pairs : List (List UInt8) := [[38, 38], [124, 124], [61, 61], [33, 61], [60, 61], [43, 43]]
theorem one_mem (c : UInt8) : one c.toNat = signB.contains c := by
 have h : signs = signB.map UInt8.toNat := rfl
 unfold one
 rw [h, List.any_map, List.contains_eq_any_beq]
 congr 1
 funext x
 rw [Bool.eq_iff_iff]
 simp only [Function.comp_apply, decide_eq_true_eq, beq_iff_eq]
 exact ⟨fun h => (UInt8.toNat_inj.1 h).symm, fun h => by rw [h]⟩
theorem index_mem (c : UInt8) : ∀ l : List UInt8, decide (0 ≤ Lib.indexByte l c) = l.contains c
 | [] => by simp [Lib.indexByte]
 | x :: r => by
  have := index_mem c r
  have hg := Lib.indexByte_ge r c
  have h1 : (x == c) = (c == x) := by rw [Bool.eq_iff_iff]; simp only [beq_iff_eq]; exact eq_comm
  unfold Lib.indexByte
  rw [List.contains_cons, ← this, ← h1]
  cases hx : x == c
  ·simp only [Bool.false_eq_true, if_false, Bool.false_or]
   by_cases hm : Lib.indexByte r c = -1
   ·rw [if_pos (by simp [hm]), hm]
   ·rw [if_neg (by simp [hm])]
    rw [Bool.eq_iff_iff, decide_eq_true_eq, decide_eq_true_eq]; omega
  ·simp
theorem two_pairs (c d : UInt8) (r : List UInt8) : two c.toNat d.toNat = pairs.any (Lib.hasPrefix (c :: d :: r)) := by
 have h : ∀ a b : UInt8, Lib.hasPrefix (c :: d :: r) [a, b] = (decide (c.toNat = a.toNat) && decide (d.toNat = b.toNat)) := by
  intro a b
  simp only [Lib.hasPrefix, List.isPrefixOf, Bool.and_true]
  have h : ∀ x y : UInt8, (x == y) = decide (y.toNat = x.toNat) := fun x y => by
   rw [Bool.eq_iff_iff, beq_iff_eq, decide_eq_true_eq]
   exact ⟨fun h => by rw [h], fun h => (UInt8.toNat_inj.1 h).symm⟩
  rw [h, h]
 unfold pairs two
 simp only [List.any_cons, h, List.any_nil, Bool.or_false]
 rfl
theorem signL_eq (c : UInt8) (r : List UInt8) : signL (c :: r) = if pairs.any (Lib.hasPrefix (c :: r)) = true then 2 else if signB.contains c = true then 1 else 0 := by
 rw [← one_mem]
 match r with
 | [] =>
  have : pairs.any (Lib.hasPrefix [c]) = false := by simp [pairs, Lib.hasPrefix, List.isPrefixOf]
  rw [this]; simp [signL]
 | d :: r => rw [← two_pairs]; rfl
theorem signL_at : ∀ (t : List UInt8) (h : 0 < t.length), signL t = if pairs.any (Lib.hasPrefix t) = true then 2 else if signB.contains t[0] = true then 1 else 0
 | c :: r, _ => signL_eq c r
theorem sign_any (g : Nat) (s : List UInt8) (i : Nat) (w : World) (h : Lx w g s i) (hin : i < s.length) : Calls Tryz.prog 89 #[.pointer (some ⟨g, 0, none⟩)] w fun e w' => e = .returned (.int .i64 (signL (s.drop i) : Int)) ∧ Below w.heap.size w w' := by
 have hn := h.n
 have hi := h.i
 have hin' : decide (i ≤ s.length) = true := by simp; omega
 have HL := Lib.hid h
 have hgl := h.lt
 have hsz : (ByteArray.mk s.toArray).size = s.length := by simp [ByteArray.size]
 have hcut := cut_at s i (s.length - i) s.length (by omega)
 rw [List.take_of_length_le (by simp)] at hcut
 have hul : (s.drop i).length = s.length - i := by simp
 have hlt0 : 0 < (s.drop i).length := by omega
 clear h
 obtain ⟨t, ht⟩ : ∃ t, s.drop i = t := ⟨_, rfl⟩
 rw [ht] at hcut hul hlt0
 rw [ht]
 clear ht
 go_enter Tryz.func89, Tryz.ntmps89
 go_wp2_with fail
 refine wp_region_sched [(0, true), (1, true), (2, true), (3, true), (4, true), (5, true), (6, true), (7, true), (8, true), (9, true), (10, true)] (by kernel_rfl) (by kernel_rfl) (fun _ _ d _ _ h => by cases d <;> exact h) ?_
 refine swith (fun W hW => (cells4 (HL.out.next ((Below.refl _ _).drew.trans (hW.out.mono (Nat.le_refl _)))).box)) (fun q => ?_)
 repeat (first | (refine sreadx rfl rfl ?_; apply Exists.intro; apply And.intro; (· (intro W hW; go_simp; try (first | with_reducible rfl | (rw [if_neg (by omega)]; try with_reducible rfl)))); simp only [Act.put, List.setIfInBounds_toArray, List.set_cons_zero, List.set_cons_succ]) | (refine sskip rfl rfl ?_; simp only [Act.put, List.setIfInBounds_toArray, List.set_cons_zero, List.set_cons_succ]))
 refine sdone ?_
 clear q
 have hr := Lib.hid (signL_at t hlt0)
 obtain ⟨c, hc⟩ : ∃ c, t[0] = c := ⟨_, rfl⟩
 rw [hc] at hr
 have hx := ba_at t 0 hlt0 hc
 have hsz2 : (ByteArray.mk t.toArray).size = t.length := by simp [ByteArray.size]
 clear hc
 clear hcut hsz hul
 go_wp2_with fail
 go_loop [2, 18] (fun v i => ∃ k : Nat, k ≤ 6 ∧ i = .int .i64 k ∧ (pairs.take k).any (Lib.hasPrefix t) = false) (fun _ i => 6 - (intOf i).toNat)
 case atStart => exact ⟨0, by omega, rfl, rfl⟩
 case round =>
  obtain ⟨k, hk, rfl, hp⟩ := hrel
  match k, hk with
  | 0, _ =>
   go_wp2_with fail
   refine (Tryz.strings_HasPrefix ⟨t.toArray⟩ ⟨#[38, 38]⟩ _).mono ?_; rintro e w1 ⟨rfl, rfl⟩
   have hpk : Lib.hasPrefix (ByteArray.mk t.toArray).data.toList (ByteArray.mk #[38, 38]).data.toList = Lib.hasPrefix t [38, 38] := rfl
   rw [hpk]
   cases hq : Lib.hasPrefix t [38, 38]
   ·go_wp2_with fail
    go_round
    case rel => exact ⟨0 + 1, by omega, by go_num, by rw [show pairs.take (0 + 1) = pairs.take 0 ++ [[38, 38]] from rfl, List.any_append, hp]; simp [hq]⟩
    case measure => simp [intOf]
   ·go_wp2_with fail
    go_ret
    refine ⟨by rw [hr.out, if_pos (by simp [pairs, hq])]; rfl, ?_⟩
    repeat (first | (with_reducible exact Below.refl _ _) | (with_reducible assumption) | refine Below.setCell ?_ (by simp <;> omega) _ | refine Below.alloc ?_ (by simp <;> omega) _ | refine Below.drew ?_)
  | 1, _ =>
   go_wp2_with fail
   refine (Tryz.strings_HasPrefix ⟨t.toArray⟩ ⟨#[124, 124]⟩ _).mono ?_; rintro e w1 ⟨rfl, rfl⟩
   have hpk : Lib.hasPrefix (ByteArray.mk t.toArray).data.toList (ByteArray.mk #[124, 124]).data.toList = Lib.hasPrefix t [124, 124] := rfl
   rw [hpk]
   cases hq : Lib.hasPrefix t [124, 124]
   ·go_wp2_with fail
    go_round
    case rel => exact ⟨1 + 1, by omega, by go_num, by rw [show pairs.take (1 + 1) = pairs.take 1 ++ [[124, 124]] from rfl, List.any_append, hp]; simp [hq]⟩
    case measure => simp [intOf]
   ·go_wp2_with fail
    go_ret
    refine ⟨by rw [hr.out, if_pos (by simp [pairs, hq])]; rfl, ?_⟩
    repeat (first | (with_reducible exact Below.refl _ _) | (with_reducible assumption) | refine Below.setCell ?_ (by simp <;> omega) _ | refine Below.alloc ?_ (by simp <;> omega) _ | refine Below.drew ?_)
  | 2, _ =>
   go_wp2_with fail
   refine (Tryz.strings_HasPrefix ⟨t.toArray⟩ ⟨#[61, 61]⟩ _).mono ?_; rintro e w1 ⟨rfl, rfl⟩
   have hpk : Lib.hasPrefix (ByteArray.mk t.toArray).data.toList (ByteArray.mk #[61, 61]).data.toList = Lib.hasPrefix t [61, 61] := rfl
   rw [hpk]
   cases hq : Lib.hasPrefix t [61, 61]
   ·go_wp2_with fail
    go_round
    case rel => exact ⟨2 + 1, by omega, by go_num, by rw [show pairs.take (2 + 1) = pairs.take 2 ++ [[61, 61]] from rfl, List.any_append, hp]; simp [hq]⟩
    case measure => simp [intOf]
   ·go_wp2_with fail
    go_ret
    refine ⟨by rw [hr.out, if_pos (by simp [pairs, hq])]; rfl, ?_⟩
    repeat (first | (with_reducible exact Below.refl _ _) | (with_reducible assumption) | refine Below.setCell ?_ (by simp <;> omega) _ | refine Below.alloc ?_ (by simp <;> omega) _ | refine Below.drew ?_)
  | 3, _ =>
   go_wp2_with fail
   refine (Tryz.strings_HasPrefix ⟨t.toArray⟩ ⟨#[33, 61]⟩ _).mono ?_; rintro e w1 ⟨rfl, rfl⟩
   have hpk : Lib.hasPrefix (ByteArray.mk t.toArray).data.toList (ByteArray.mk #[33, 61]).data.toList = Lib.hasPrefix t [33, 61] := rfl
   rw [hpk]
   cases hq : Lib.hasPrefix t [33, 61]
   ·go_wp2_with fail
    go_round
    case rel => exact ⟨3 + 1, by omega, by go_num, by rw [show pairs.take (3 + 1) = pairs.take 3 ++ [[33, 61]] from rfl, List.any_append, hp]; simp [hq]⟩
    case measure => simp [intOf]
   ·go_wp2_with fail
    go_ret
    refine ⟨by rw [hr.out, if_pos (by simp [pairs, hq])]; rfl, ?_⟩
    repeat (first | (with_reducible exact Below.refl _ _) | (with_reducible assumption) | refine Below.setCell ?_ (by simp <;> omega) _ | refine Below.alloc ?_ (by simp <;> omega) _ | refine Below.drew ?_)
  | 4, _ =>
   go_wp2_with fail
   refine (Tryz.strings_HasPrefix ⟨t.toArray⟩ ⟨#[60, 61]⟩ _).mono ?_; rintro e w1 ⟨rfl, rfl⟩
   have hpk : Lib.hasPrefix (ByteArray.mk t.toArray).data.toList (ByteArray.mk #[60, 61]).data.toList = Lib.hasPrefix t [60, 61] := rfl
   rw [hpk]
   cases hq : Lib.hasPrefix t [60, 61]
   ·go_wp2_with fail
    go_round
    case rel => exact ⟨4 + 1, by omega, by go_num, by rw [show pairs.take (4 + 1) = pairs.take 4 ++ [[60, 61]] from rfl, List.any_append, hp]; simp [hq]⟩
    case measure => simp [intOf]
   ·go_wp2_with fail
    go_ret
    refine ⟨by rw [hr.out, if_pos (by simp [pairs, hq])]; rfl, ?_⟩
    repeat (first | (with_reducible exact Below.refl _ _) | (with_reducible assumption) | refine Below.setCell ?_ (by simp <;> omega) _ | refine Below.alloc ?_ (by simp <;> omega) _ | refine Below.drew ?_)
  | 5, _ =>
   go_wp2_with fail
   refine (Tryz.strings_HasPrefix ⟨t.toArray⟩ ⟨#[43, 43]⟩ _).mono ?_; rintro e w1 ⟨rfl, rfl⟩
   have hpk : Lib.hasPrefix (ByteArray.mk t.toArray).data.toList (ByteArray.mk #[43, 43]).data.toList = Lib.hasPrefix t [43, 43] := rfl
   rw [hpk]
   cases hq : Lib.hasPrefix t [43, 43]
   ·go_wp2_with fail
    go_round
    case rel => exact ⟨5 + 1, by omega, by go_num, by rw [show pairs.take (5 + 1) = pairs.take 5 ++ [[43, 43]] from rfl, List.any_append, hp]; simp [hq]⟩
    case measure => simp [intOf]
   ·go_wp2_with fail
    go_ret
    refine ⟨by rw [hr.out, if_pos (by simp [pairs, hq])]; rfl, ?_⟩
    repeat (first | (with_reducible exact Below.refl _ _) | (with_reducible assumption) | refine Below.setCell ?_ (by simp <;> omega) _ | refine Below.alloc ?_ (by simp <;> omega) _ | refine Below.drew ?_)
  | 6, _ =>
   have hp' : pairs.any (Lib.hasPrefix t) = false := hp
   rw [if_neg (by rw [hp']; simp)] at hr
   have hm := index_mem c signB
   go_wp2_with fail
   refine (Tryz.strings_IndexByte ⟨#[123, 125, 40, 41, 91, 93, 59, 44, 46, 61, 60, 43, 45, 42, 47, 37, 33]⟩ (c.toNat : Int) _).mono ?_; rintro e w1 ⟨rfl, rfl⟩
   have hpk : Lib.indexByte (ByteArray.mk #[123, 125, 40, 41, 91, 93, 59, 44, 46, 61, 60, 43, 45, 42, 47, 37, 33]).data.toList (c.toNat : Int).toNat.toUInt8 = Lib.indexByte signB c := by
    rw [show (c.toNat : Int).toNat.toUInt8 = c from by simp]; rfl
   rw [hpk]
   rw [← hm] at hr
   clear hm
   generalize Lib.indexByte signB c = x at *
   cases hq : decide (0 ≤ x)
   ·rw [hq] at hr
    go_wp2_with fail
    go_ret
    refine ⟨by rw [hr.out]; rfl, ?_⟩
    repeat (first | (with_reducible exact Below.refl _ _) | (with_reducible assumption) | refine Below.setCell ?_ (by simp <;> omega) _ | refine Below.alloc ?_ (by simp <;> omega) _ | refine Below.drew ?_)
   ·rw [hq] at hr
    go_wp2_with fail
    go_ret
    refine ⟨by rw [hr.out]; rfl, ?_⟩
    repeat (first | (with_reducible exact Below.refl _ _) | (with_reducible assumption) | refine Below.setCell ?_ (by simp <;> omega) _ | refine Below.alloc ?_ (by simp <;> omega) _ | refine Below.drew ?_)
  | k + 7, h => exact absurd h (by omega)
end Go.Proofs.YtnbmpfdffoidaaaGreatDoor.X
namespace Go.Proofs.YtnbmpfdffoidaaaGreatDoor.V
open Go.RowKit O
def fitsV (v : Val) (k m : Int) : Bool := rightT k m && right v && (v.k == k) && (v.k != 3 || decide ((v.s.length : Int) ≤ m))
theorem int_any (n : Int) (w : World) : Calls Tryz.prog 52 #[.int .i64 n] w fun e w' => e = .returned (vv ⟨1, n, []⟩) ∧ Below w.heap.size w w' := by
 go_enter Tryz.func52, Tryz.ntmps52
 go_wp2_with fail
 refine bodyPost_ret (v := vv ⟨1, n, []⟩) (by simp [results, Tryz.results52, go_sem, vv]) rfl ?_
 refine ⟨rfl, ?_⟩
 repeat (first | (with_reducible exact Below.refl _ _) | (with_reducible assumption) | refine Below.setCell ?_ (by simp <;> omega) _ | refine Below.alloc ?_ (by simp <;> omega) _ | refine Below.drew ?_)
theorem bool_any (b : Bool) (w : World) : Calls Tryz.prog 110 #[.bool b] w fun e w' => e = .returned (vv ⟨2, if b then 1 else 0, []⟩) ∧ Below w.heap.size w w' := by
 cases b
 ·go_enter Tryz.func110, Tryz.ntmps110
  go_wp2_with fail
  refine bodyPost_ret (v := vv ⟨2, 0, []⟩) (by simp [results, Tryz.results110, go_sem, vv]) rfl ?_
  refine ⟨rfl, ?_⟩
  repeat (first | (with_reducible exact Below.refl _ _) | (with_reducible assumption) | refine Below.setCell ?_ (by simp <;> omega) _ | refine Below.alloc ?_ (by simp <;> omega) _ | refine Below.drew ?_)
 ·go_enter Tryz.func110, Tryz.ntmps110
  go_wp2_with fail
  refine bodyPost_ret (v := vv ⟨2, 1, []⟩) (by simp [results, Tryz.results110, go_sem, vv]) rfl ?_
  refine ⟨rfl, ?_⟩
  repeat (first | (with_reducible exact Below.refl _ _) | (with_reducible assumption) | refine Below.setCell ?_ (by simp <;> omega) _ | refine Below.alloc ?_ (by simp <;> omega) _ | refine Below.drew ?_)
end Go.Proofs.YtnbmpfdffoidaaaGreatDoor.V
namespace Go.Proofs
open Go.Shelf
def Tryz.lays169_ren : Go.Shelf.Ren := ⟨fun | 169 => 58 | n => n, fun | 70 => 111 | 9 => 9 | 0 => 0 | 72 => 114 | 37 => 112 | 127 => 154 | 3 => 3 | 5 => 5 | n => n, fun | n => n⟩
theorem Tryz.lays169 : Go.Proofs.Lays.n169 Tryz.prog Tryz.lays169_ren := {
 mixed := by kernel_rfl
 f169 := Tryz.func58.trans (congrArg some (by kernel_rfl))
 t0 := Tryz.underlying0
 a0 := Tryz.isAgg0
 z0 := Tryz.sizeOf0
 v0 := Tryz.zeroValue0
 t3 := Tryz.underlying3
 a3 := Tryz.isAgg3
 z3 := Tryz.sizeOf3
 v3 := Tryz.zeroValue3
 t9 := Tryz.underlying9
 a9 := Tryz.isAgg9
 z9 := Tryz.sizeOf9
 v9 := Tryz.zeroValue9
 t37 := Tryz.underlying112
 a37 := Tryz.isAgg112
 z37 := Tryz.sizeOf112
 v37 := Tryz.zeroValue112
 t70 := Tryz.underlying111
 a70 := Tryz.isAgg111
 z70 := Tryz.sizeOf111
 v70 := Tryz.zeroValue111
 t72 := Tryz.underlying114
 a72 := Tryz.isAgg114
 z72 := Tryz.sizeOf114
 v72 := Tryz.zeroValue114
 t127 := Tryz.underlying154
 a127 := Tryz.isAgg154
 z127 := Tryz.sizeOf154
 v127 := Tryz.zeroValue154 }
theorem Tryz.Builder_Extra_169 : Builder.Extra Tryz.prog Tryz.lays169_ren := {
 sizeBuilder := by kernel_rfl
 liesBuilder := by kernel_rfl
 t5 := Tryz.underlying5
 a5 := Tryz.isAgg5
 z5 := Tryz.sizeOf5
 v5 := Tryz.zeroValue5
 infoByte := by kernel_rfl
 cellsByte := by kernel_rfl
 sizeByte := by kernel_rfl
 neB5 := by decide }
open Go.RowKit in
theorem Tryz.Builder_String_any (B b : Nat) (l : List UInt8) (w : World) (h : Lib.IsBuilder 114 5 B b (Lib.byteCells l) w) (hBw : B ≤ w.heap.size) :
  Calls Tryz.prog 58 #[.pointer (some ⟨b, 0, none⟩)] w fun e w' => e = .returned (.string ⟨l.toArray⟩) ∧ Below B w w' := Any.Builder_String_any Tryz.lays169 Tryz.Builder_Extra_169 B b l w h hBw
def Tryz.lays156_ren : Go.Shelf.Ren := ⟨fun | 156 => 23 | 165 => 56 | 166 => 57 | 169 => 58 | 240 => 115 | 241 => 116 | 276 => 148 | 277 => 149 | n => n, fun | 31 => 62 | 9 => 9 | 3 => 3 | 4 => 4 | 0 => 0 | 20 => 20 | 72 => 114 | 76 => 117 | 70 => 111 | 37 => 112 | 75 => 116 | 127 => 154 | 164 => 175 | 5 => 5 | 80 => 83 | n => n, fun | n => n⟩
theorem Tryz.lays156 : Go.Proofs.Lays.n156 Tryz.prog Tryz.lays156_ren := {
 mixed := by kernel_rfl
 f156 := Tryz.func23.trans (congrArg some (by kernel_rfl))
 f165 := Tryz.func56.trans (congrArg some (by kernel_rfl))
 f166 := Tryz.func57.trans (congrArg some (by kernel_rfl))
 f169 := Tryz.func58.trans (congrArg some (by kernel_rfl))
 f240 := Tryz.func115.trans (congrArg some (by kernel_rfl))
 f241 := Tryz.func116.trans (congrArg some (by kernel_rfl))
 f276 := Tryz.func148.trans (congrArg some (by kernel_rfl))
 f277 := Tryz.func149.trans (congrArg some (by kernel_rfl))
 t0 := Tryz.underlying0
 a0 := Tryz.isAgg0
 z0 := Tryz.sizeOf0
 v0 := Tryz.zeroValue0
 t3 := Tryz.underlying3
 a3 := Tryz.isAgg3
 z3 := Tryz.sizeOf3
 v3 := Tryz.zeroValue3
 t4 := Tryz.underlying4
 a4 := Tryz.isAgg4
 z4 := Tryz.sizeOf4
 v4 := Tryz.zeroValue4
 t9 := Tryz.underlying9
 a9 := Tryz.isAgg9
 z9 := Tryz.sizeOf9
 v9 := Tryz.zeroValue9
 t20 := Tryz.underlying20
 a20 := Tryz.isAgg20
 z20 := Tryz.sizeOf20
 v20 := Tryz.zeroValue20
 t31 := Tryz.underlying62
 a31 := Tryz.isAgg62
 z31 := Tryz.sizeOf62
 v31 := Tryz.zeroValue62
 t37 := Tryz.underlying112
 a37 := Tryz.isAgg112
 z37 := Tryz.sizeOf112
 v37 := Tryz.zeroValue112
 t70 := Tryz.underlying111
 a70 := Tryz.isAgg111
 z70 := Tryz.sizeOf111
 v70 := Tryz.zeroValue111
 t72 := Tryz.underlying114
 a72 := Tryz.isAgg114
 z72 := Tryz.sizeOf114
 v72 := Tryz.zeroValue114
 t75 := Tryz.underlying116
 a75 := Tryz.isAgg116
 z75 := Tryz.sizeOf116
 v75 := Tryz.zeroValue116
 t76 := Tryz.underlying117
 a76 := Tryz.isAgg117
 z76 := Tryz.sizeOf117
 v76 := Tryz.zeroValue117
 t127 := Tryz.underlying154
 a127 := Tryz.isAgg154
 z127 := Tryz.sizeOf154
 v127 := Tryz.zeroValue154
 t164 := Tryz.underlying175
 a164 := Tryz.isAgg175
 z164 := Tryz.sizeOf175
 v164 := Tryz.zeroValue175 }
theorem Tryz.Builder_Extra_156 : Builder.Extra Tryz.prog Tryz.lays156_ren := {
 sizeBuilder := by kernel_rfl
 liesBuilder := by kernel_rfl
 t5 := Tryz.underlying5
 a5 := Tryz.isAgg5
 z5 := Tryz.sizeOf5
 v5 := Tryz.zeroValue5
 infoByte := by kernel_rfl
 cellsByte := by kernel_rfl
 sizeByte := by kernel_rfl
 neB5 := by decide }
open Go.RowKit in
theorem Tryz.strings_Join_none (a : Option Addr) (c : Nat) (sep : ByteArray) (w : World) :
  Calls Tryz.prog 23 #[.slice a 0 c, .string sep] w fun e w' => e = .returned (.string ⟨#[]⟩) ∧ w' = w := Any.strings_Join_none Tryz.lays156 Tryz.Builder_Extra_156 a c sep w
open Go.RowKit in
theorem Tryz.strings_Join (bk o c : Nat) (xs : List ByteArray) (sep : ByteArray) (w : World) (hcells : ∀ (j : Nat) x, xs[j]? = some x → w.cell? ⟨bk, o + j, none⟩ = some (.string x)) (hbk : bk < w.heap.size) (hN : xs.length ≤ 140737488355328) (hcap : xs.length ≤ c) (hlen : (Lib.join (xs.map (·.data.toList)) sep.data.toList).length ≤ 140737488355328) :
  Calls Tryz.prog 23 #[.slice (some ⟨bk, o, none⟩) xs.length c, .string sep] w fun e w' => e = .returned (.string ⟨(Lib.join (xs.map (·.data.toList)) sep.data.toList).toArray⟩) ∧ Below w.heap.size w w' := Any.strings_Join Tryz.lays156 Tryz.Builder_Extra_156 bk o c xs sep w hcells hbk hN hcap hlen
end Go.Proofs
namespace Go.Proofs.YtnbmpfdffoidaaaGreatDoor
open Go.RowKit
theorem sizeBuilder : (Tryz.prog.info? 114).map (·.size) = some 2 := by kernel_rfl
theorem liesBuilder : liesAt Tryz.prog Tryz.prog.depth 114 (2 / Tryz.prog.cellsOf 114) 0 114 1 = true := by kernel_rfl
theorem copyCheck_used (b : Nat) (w : World) (h0 : w.cell? ⟨b, 0, none⟩ = some (.pointer (some ⟨b, 0, none⟩))) :
  Calls Tryz.prog 115 #[.pointer (some ⟨b, 0, none⟩)] w fun e w' => e = .returned (.tuple #[]) ∧ w' = w := by
 obtain ⟨j, hj, _⟩ := Option.map_eq_some_iff.1 sizeBuilder
 go_enter Tryz.func115, Tryz.ntmps115
 go_wp2
 rw [Lib.run_neq_ptr_same w _ Tryz.underlying111 hj]
 go_wp2
 go_end0
 exact ⟨rfl, rfl⟩
theorem copyCheck_fresh (b : Nat) (w : World) (h0 : w.cell? ⟨b, 0, none⟩ = some (.pointer none)) (hsh : w.shape? b = some (114, 2)) (hfz : w.frozen? ⟨b, 0, none⟩ = false) :
  Calls Tryz.prog 115 #[.pointer (some ⟨b, 0, none⟩)] w fun e w' => e = .returned (.tuple #[]) ∧ w' = w.setCell ⟨b, 0, none⟩ (.pointer (some ⟨b, 0, none⟩)) := by
 obtain ⟨j, hj, hjs⟩ := Option.map_eq_some_iff.1 sizeBuilder
 go_enter Tryz.func115, Tryz.ntmps115
 go_wp2
 rw [Lib.run_to_unsafe w ⟨b, 0, none⟩ Tryz.underlying111 Tryz.underlying175 hj (by rw [hjs]; decide) hsh (Nat.zero_lt_succ 1)]
 simp only [Result.andThen]
 rw [Oper.upon_value]
 go_wp2
 rw [run_callFunc_extern Tryz.func148 (by kernel_rfl) (by kernel_rfl) (by kernel_rfl) (e := Extern.AbiNoEscape.same) (by kernel_rfl)]
 rw [Lib.run_noEscape]
 simp only [Result.andThen]
 rw [Oper.upon_value]
 go_wp2
 rw [Lib.run_from_unsafe w ⟨b, 0, none⟩ Tryz.underlying175 Tryz.underlying111 hj hsh liesBuilder]
 simp only [Result.andThen]
 rw [Oper.upon_value]
 go_wp2
 go_end0
 exact ⟨rfl, rfl⟩
theorem copyCheck_any (B b : Nat) (bs : List Value) (w : World) (h : Lib.IsBuilder 114 5 B b bs w) :
  Calls Tryz.prog 115 #[.pointer (some ⟨b, 0, none⟩)] w fun e w' => e = .returned (.tuple #[]) ∧ (Lib.BuilderAt 114 5 B b (.pointer (some ⟨b, 0, none⟩)) bs w' ∧ Below B w w') := by
 rcases h with h | h
 ·refine (copyCheck_fresh b w h.cell0 h.shape h.frozen0).mono ?_
  rintro e w' ⟨rfl, rfl⟩
  exact ⟨rfl, h.used _, (Below.refl B w).setCell (p := ⟨b, 0, none⟩) h.1 _⟩
 ·refine (copyCheck_used b w h.cell0).mono ?_
  rintro e w' ⟨rfl, rfl⟩
  exact ⟨rfl, h, Below.refl B _⟩
theorem writeByte_any (B b : Nat) (bs : List Value) (c : Int) (w : World) (h : Lib.IsBuilder 114 5 B b bs w) (hlen : bs.length + 1 ≤ 140737488355328) (hBw : B ≤ w.heap.size) :
  Calls Tryz.prog 130 #[.pointer (some ⟨b, 0, none⟩), .int .u8 c] w fun e w' => e = .returned .nilIface ∧ (Lib.BuilderAt 114 5 B b (.pointer (some ⟨b, 0, none⟩)) (bs ++ [.int .u8 c]) w' ∧ Below B w w') := by
 obtain ⟨i0, hi, hz0, hz1, hz2⟩ := info_parts (show (Tryz.prog.info? 5).map (fun i => (i.zero, i.size, i.bytes)) = some (some (.int .u8 0), 1, 1) by kernel_rfl)
 go_enter Tryz.func130, Tryz.ntmps130
 go_wp2_with fail
 refine (copyCheck_any B b bs _ h).mono ?_
 rintro e w1 ⟨rfl, h1, hb1⟩
 obtain ⟨hB, v, hbk, hown, hne⟩ := h1
 have c0 : w1.cell? ⟨b, 0, none⟩ = some (.pointer (some ⟨b, 0, none⟩)) := by rw [Lib.cell_of_heap hbk]; rfl
 have c1 : w1.cell? ⟨b, 1, none⟩ = some v := by rw [Lib.cell_of_heap hbk]; rfl
 go_wp2_with (at_builtin; refine wpList_append_own _ rfl _ _ 112 rfl B 5 i0 (.int .u8 0) 1 1 Tryz.underlying112 hi hz0 hz1 hz2 rfl (by decide) _ _ _ rfl (hown.alloc _) ⟨w1.heap.size, 0, none⟩ 1 1 [.int .u8 c] rfl rfl ?c1 ?c2 ?c3 ?c4 ?c5 ?_)
 case c1 =>
  intro j u hj
  match j, hj with
  | 0, hj => simp at hj; subst hj; simp [Addr.add]
 case c2 => intro u hu; simp at hu; subst hu; rfl
 case c3 => unfold maxLen; omega
 case c4 => omega
 case c5 => have := hb1.size; simp; omega
 intro v' w2 hown' hgrow _
 have hlt : b < w1.heap.size := by
  rcases Nat.lt_or_ge b w1.heap.size with h' | h'
  ·exact h'
  ·simp [Array.getElem?_eq_none h'] at hbk
 have hb2 : w2.heap[b]? = some (.cells #[.pointer (some ⟨b, 0, none⟩), v] 114 (0, 0)) := by
  rw [hgrow.block b (by simp; omega) (fun e => hne e.symm), Lib.alloc_old w1 _ b hlt]
  exact hbk
 have d0 : w2.cell? ⟨b, 0, none⟩ = some (.pointer (some ⟨b, 0, none⟩)) := by rw [Lib.cell_of_heap hb2]; rfl
 have d1 : w2.cell? ⟨b, 1, none⟩ = some v := by rw [Lib.cell_of_heap hb2]; rfl
 have f1 : w2.frozen? ⟨b, 1, none⟩ = false := Lib.frozen_of_heap hb2 1
 obtain ⟨g, cap, rfl⟩ : ∃ g cap, v' = .slice (some ⟨g, 0, none⟩) (bs.length + 1) cap := by
  rcases hown'.2 with ⟨_, h0⟩ | ⟨g, cap, cur, hv, _⟩
  ·omega
  ·exact ⟨g, cap, hv⟩
 go_wp2
 go_ret
 refine ⟨rfl, ?_, ?_⟩
 ·exact Lib.BuilderAt.put (T := 114) (e := 5) hB hb2 (bs' := bs ++ [.int .u8 c]) (by simpa using hown') (by decide)
 ·exact ((hb1.alloc (by have := hb1.size; omega) _).grown hgrow (by have := hb1.size; simp; omega) (fun k hk => (hown.lt k hk).1)).setCell (p := ⟨b, 1, none⟩) hB _
end Go.Proofs.YtnbmpfdffoidaaaGreatDoor
namespace Go.Proofs.YtnbmpfdffoidaaaGreatDoor.V
open Go.RowKit O
theorem dig_at (n : Nat) (h : n < 10) : (ByteArray.mk #[48, 49, 50, 51, 52, 53, 54, 55, 56, 57]).extract n (n + 1) = ByteArray.mk (digN n).toArray := by
 rw [digN_lt h]
 obtain rfl | rfl | rfl | rfl | rfl | rfl | rfl | rfl | rfl | rfl : n = 0 ∨ n = 1 ∨ n = 2 ∨ n = 3 ∨ n = 4 ∨ n = 5 ∨ n = 6 ∨ n = 7 ∨ n = 8 ∨ n = 9 := by omega
 all_goals rfl
theorem digits_any (n : Nat) : ∀ w : World, n < 18446744073709551616 → Calls Tryz.prog 144 #[.int .u64 n] w fun e w' => e = .returned (.string ⟨(digN n).toArray⟩) ∧ Below w.heap.size w w' := by
 induction n using Nat.strongRecOn with
 | ind n ih =>
  intro w hn
  by_cases h : n < 10
  ·have hd := Lib.hid (dig_at n h)
   go_enter Tryz.func144, Tryz.ntmps144
   go_wp2_with fail
   go_ret
   refine ⟨?_, Below.refl _ _⟩
   rw [← hd.out]
   rfl
  ·have I1 := Lib.hid (ih (n / 10) (by omega))
   have I2 := Lib.hid (ih (n % 10) (by omega))
   have hg := Lib.hid (digN_ge (n := n) (by omega))
   have l1 := digN_len20 (n / 10) (by omega)
   have l2 := Lib.hid (digN_lt (n := n % 10) (by omega))
   clear ih
   go_enter Tryz.func144, Tryz.ntmps144
   go_wp2_with fail
   rw [show (n : Int) / 10 = ((n / 10 : Nat) : Int) by omega]
   refine (I1.out _ (by omega)).mono ?_; rintro e w1 ⟨rfl, b1⟩
   have hlim : (digN (n / 10)).length + (digN (n % 10)).length ≤ 9223372036854775807 := by rw [l2.out]; simp; omega
   go_wp2_with fail
   rw [show (n : Int) % 10 = ((n % 10 : Nat) : Int) by omega]
   refine (I2.out _ (by omega)).mono ?_; rintro e w2 ⟨rfl, b2⟩
   go_wp2_with fail
   go_ret
   rw [ba_append]
   exact ⟨by rw [hg.out, l2.out]; rfl, bthen b1 b2⟩
theorem dec_any (n : Int) (w : World) (h1 : -9223372036854775808 ≤ n) (h2 : n ≤ 9223372036854775807) : Calls Tryz.prog 109 #[.int .i64 n] w fun e w' => e = .returned (.string ⟨(decL n).toArray⟩) ∧ Below w.heap.size w w' := by
 have hl := digN_len20 n.natAbs (by omega)
 by_cases h0 : n < 0
 ·have hd : Hid (decL n = [45] ++ digN n.natAbs) := Lib.hid (by rw [decL, if_pos h0]; rfl)
  have hlim : (1 : Nat) + (digN n.natAbs).length ≤ 9223372036854775807 := by omega
  go_enter Tryz.func109, Tryz.ntmps109
  go_wp2_with fail
  rw [show -(n + 1) + 1 = ((n.natAbs : Nat) : Int) by omega]
  refine (digits_any n.natAbs _ (by omega)).mono ?_; rintro e w1 ⟨rfl, b1⟩
  go_wp2_with fail
  go_ret
  rw [show (ByteArray.mk #[45]) = ByteArray.mk [45].toArray from rfl, ba_append]
  exact ⟨by rw [hd.out]; rfl, b1⟩
 ·have hd : Hid (decL n = digN n.natAbs) := Lib.hid (by rw [decL, if_neg h0])
  go_enter Tryz.func109, Tryz.ntmps109
  go_wp2_with fail
  rw [show n = ((n.natAbs : Nat) : Int) by omega]
  refine (digits_any n.natAbs _ (by omega)).mono ?_; rintro e w1 ⟨rfl, b1⟩
  go_wp2_with fail
  go_ret
  exact ⟨by rw [hd.out]; rfl, b1⟩
theorem byteCells_bv (l : List UInt8) : Lib.byteCells l = bv l := by simp [Lib.byteCells, bv]
def Bld (g : Nat) (l : List UInt8) (w : World) : Prop := Lib.IsBuilder 114 5 g g (bv l) w
theorem Bld.fresh (w : World) : Bld w.heap.size [] (w.alloc (.cells #[.pointer none, .slice none 0 0] 114)) := by
 refine .inl ⟨Nat.le_refl _, .slice none 0 0, heap_alloc_new _ _, ⟨rfl, .inl ⟨rfl, rfl⟩⟩, by simp [Value.ownBlock]⟩
theorem Bld.lt {g : Nat} {l : List UInt8} {w : World} (h : Bld g l w) : g < w.heap.size := by
 rcases h with h | h
 ·exact h.lt
 ·exact h.lt
theorem write_any {g : Nat} {l : List UInt8} {w : World} (h : Bld g l w) (c : UInt8) {x : Int} (hx : x = (c.toNat : Int)) (hl : l.length ≤ 100000000000) :
  Calls Tryz.prog 130 #[.pointer (some ⟨g, 0, none⟩), .int .u8 x] w fun e w' => e = .returned .nilIface ∧ Bld g (l ++ [c]) w' ∧ Below g w w' := by
 subst hx
 refine (writeByte_any g g (bv l) c.toNat w h (by simp; omega) (Nat.le_of_lt h.lt)).mono ?_
 rintro e w1 ⟨rfl, h1, b1⟩
 exact ⟨rfl, .inr (by simpa [bv] using h1), b1⟩
theorem string_any {g : Nat} {l : List UInt8} {w : World} (h : Bld g l w) :
  Calls Tryz.prog 58 #[.pointer (some ⟨g, 0, none⟩)] w fun e w' => e = .returned (.string ⟨l.toArray⟩) ∧ Below g w w' :=
 Tryz.Builder_String_any g g l w (by rw [byteCells_bv]; exact h) (Nat.le_of_lt h.lt)
theorem esc_step {s : List UInt8} {k : Nat} (h : k < s.length) : escL (s.take (k + 1)) = escL (s.take k) ++ esc s[k] := by
 rw [List.take_succ_eq_append_getElem h, escL_snoc]
theorem quoted_any (s : List UInt8) (w : World) (hs : s.length ≤ 1000000000) : Calls Tryz.prog 111 #[.string ⟨s.toArray⟩] w fun e w' => e = .returned (.string ⟨(quoteL s).toArray⟩) ∧ Below w.heap.size w w' := by
 have hsz : (ByteArray.mk s.toArray).size = s.length := by simp [ByteArray.size]
 go_enter Tryz.func111, Tryz.ntmps111
 go_wp2_with fail
 refine (write_any (Bld.fresh w) 34 (by decide) (by simp)).mono ?_; rintro e w1 ⟨rfl, d1, b1⟩
 have B1 : Below w.heap.size w w1 := Below.trans ((Below.refl _ _).alloc (Nat.le_refl _) _) b1
 go_wp2_with fail
 go_loopw [4, 8] (fun _ i wr => ∃ k : Nat, k ≤ s.length ∧ i = .int .i64 k ∧ Bld w.heap.size ([34] ++ escL (s.take k)) wr ∧ Below w.heap.size w wr) (fun _ i _ => s.length - (intOf i).toNat)
 case atStart => exact ⟨0, by omega, rfl, by simpa [escL] using d1, B1⟩
 case round =>
  obtain ⟨k, hk, rfl, hd, hb⟩ := hrel
  clear d1 b1 B1
  have hel : ([34] ++ escL (s.take k)).length ≤ 10000000000 := by have := escL_len (s.take k); simp at this ⊢; omega
  by_cases hlt : k < s.length
  ·have hn := Lib.hid (esc_step hlt)
   generalize hc : s[k] = c at hn
   have hx := ba_at s k hlt hc
   by_cases h34 : c.toNat = 34 ∨ c.toNat = 92
   ·have he : Hid (esc c = [92, c]) := Lib.hid (by unfold esc; rw [if_pos h34])
    rcases h34 with h34 | h34
    ·have h34' : (c.toNat : Int) = 34 := by omega
     clear h34
     go_wp2_with fail
     refine (write_any hd 92 (by decide) (by omega)).mono ?_; rintro e w2 ⟨rfl, d2, b2⟩
     go_wp2_with fail
     refine (write_any d2 c (by omega) (by simp at hel ⊢; omega)).mono ?_; rintro e w3 ⟨rfl, d3, b3⟩
     go_wp2_with fail
     go_roundw
     case rel => exact ⟨k + 1, by omega, by go_num, by rw [hn.out, he.out]; simpa using d3, Below.trans (Below.trans hb b2) b3⟩
     case measure => simp [intOf]; omega
    ·have h34' : (c.toNat : Int) = 92 := by omega
     clear h34
     go_wp2_with fail
     refine (write_any hd 92 (by decide) (by omega)).mono ?_; rintro e w2 ⟨rfl, d2, b2⟩
     go_wp2_with fail
     refine (write_any d2 c (by omega) (by simp at hel ⊢; omega)).mono ?_; rintro e w3 ⟨rfl, d3, b3⟩
     go_wp2_with fail
     go_roundw
     case rel => exact ⟨k + 1, by omega, by go_num, by rw [hn.out, he.out]; simpa using d3, Below.trans (Below.trans hb b2) b3⟩
     case measure => simp [intOf]; omega
   ·have he : Hid (esc c = [c]) := Lib.hid (by unfold esc; rw [if_neg h34])
    have g1 : ((c.toNat : Int) == 34) = false := by simp; omega
    have g2 : ((c.toNat : Int) == 92) = false := by simp; omega
    go_wp2_with fail
    refine (write_any hd c (by omega) (by omega)).mono ?_; rintro e w3 ⟨rfl, d3, b3⟩
    go_wp2_with fail
    go_roundw
    case rel => exact ⟨k + 1, by omega, by go_num, by rw [hn.out, he.out]; simpa using d3, Below.trans hb b3⟩
    case measure => simp [intOf]; omega
  ·obtain rfl : k = s.length := by omega
   go_wp2_with fail
   refine (write_any hd 34 (by decide) (by omega)).mono ?_; rintro e w3 ⟨rfl, d3, b3⟩
   go_wp2_with fail
   refine (string_any d3).mono ?_; rintro e w4 ⟨rfl, b4⟩
   go_wp2_with fail
   go_ret
   exact ⟨by simp [quoteL], Below.trans (Below.trans hb b3) b4⟩
end Go.Proofs.YtnbmpfdffoidaaaGreatDoor.V
