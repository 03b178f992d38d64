/- The contracts of the lexer's pass and gap. -/
import Derived.Test.YtpodniljpinigaaLexRun
import Derived.StillTailTactics
namespace Go.Proofs.Ytpodniljpinigaa.X
open Go.RowKit O V S

theorem cut_at (s : List UInt8) (i n m : Nat) (h : m = i + n) : (ByteArray.mk s.toArray).extract i m = ⟨((s.drop i).take n).toArray⟩ := by
  subst h
  apply ByteArray.ext
  simp [List.extract_eq_take_drop, List.take_drop]
theorem last_cases (u : List UInt8) : (Lib.lastIndexByte ⟨u.toArray⟩ 10 = -1 ∧ ∀ j, j < u.length → (u.getD j 0).toNat ≠ 10) ∨ ∃ p : Nat, p < u.length ∧ Lib.lastIndexByte ⟨u.toArray⟩ 10 = p ∧ (u.getD p 0).toNat = 10 ∧ ∀ j, p < j → j < u.length → (u.getD j 0).toNat ≠ 10 := by
  have hsz : (ByteArray.mk u.toArray).size = u.length := by simp [ByteArray.size]
  have hg : ∀ j, j < u.length → (ByteArray.mk u.toArray).data[j]! = u.getD j 0 := fun j hj => by simp [List.getD_eq_getElem?_getD, hj]
  rcases Lib.lastIdx_spec ⟨u.toArray⟩ 10 (ByteArray.mk u.toArray).size with ⟨h1, h2⟩ | ⟨p, hp, h1, h2, h3⟩
  · refine .inl ⟨h1, fun j hj => ?_⟩
    have := h2 j (by omega)
    rw [hg j hj] at this
    omega
  · rw [hsz] at hp
    refine .inr ⟨p, hp, h1, ?_, fun j hj1 hj2 => ?_⟩
    · rw [hg p hp] at h2; omega
    · have := h3 j hj1 (by omega)
      rw [hg j hj2] at this
      omega
theorem getD_cut {s : List UInt8} {i n j : Nat} (h : i + n ≤ s.length) (hj : j < n) : ((s.drop i).take n).getD j 0 = s.getD (i + j) 0 := by
  simp [List.getD_eq_getElem?_getD, List.getElem?_take, hj]
set_option maxHeartbeats 1000000 in
set_option maxRecDepth 100000 in
theorem pass_any (g : Nat) (s : List UInt8) (i n : Nat) (w : World) (h : Lx w g s i) (hin : i + n ≤ s.length) : Calls Try.prog 54 #[.pointer (some ⟨g, 0, none⟩), .int .i64 (n : Int)] w fun e w' => e = .returned (.string ⟨((s.drop i).take n).toArray⟩) ∧ Lx w' g s (i + n) ∧ w.grownBy w' (some g) := by
  have hn := h.n
  have HL := Lib.hid h
  have hgl := h.lt
  have hsz : (ByteArray.mk s.toArray).size = s.length := by simp [ByteArray.size]
  obtain ⟨m, hm⟩ : ∃ m, m = i + n := ⟨_, rfl⟩
  have hwr : IntKind.i64.wrap ((i : Int) + (n : Int)) = (m : Int) := by rw [IntWalk.i64_in _ (by omega)]; omega
  have hcut := cut_at s i n m hm
  have hline := line_add s i n hin
  have hlast := last_cases ((s.drop i).take n)
  have hul : ((s.drop i).take n).length = n := by simp; omega
  have hgd := fun j hj => getD_cut (s := s) (i := i) (n := n) (j := j) hin hj
  rw [hul] at hlast
  have hle := lineOf_le s i
  have hle2 := lineOf_le s (i + n)
  have hse := startOf_le s i
  have hstart : (Lib.lastIndexByte ⟨((s.drop i).take n).toArray⟩ 10 = -1 ∧ startOf s (i + n) = startOf s i ∧ lineOf s (i + n) = lineOf s i) ∨ ∃ p : Nat, p < n ∧ Lib.lastIndexByte ⟨((s.drop i).take n).toArray⟩ 10 = p ∧ startOf s (i + n) = i + p + 1 := by
    rcases hlast with ⟨h1, h2⟩ | ⟨p, hp, h1, h2, h3⟩
    · refine .inl ⟨h1, start_no s i n (fun j hj1 hj2 => ?_), ?_⟩
      · have := h2 (j - i) (by omega)
        rwa [hgd _ (by omega), show i + (j - i) = j by omega] at this
      · rw [hline, List.count_eq_zero_of_not_mem]
        · rfl
        · intro hmem
          obtain ⟨j, hj, e⟩ := List.getElem_of_mem hmem
          have := h2 j (by omega)
          rw [List.getD_eq_getElem?_getD, List.getElem?_eq_getElem hj] at this
          exact this ((ten_iff _).2 e)
    · refine .inr ⟨p, hp, h1, start_at s i p n hp (by rw [← hgd p hp]; exact h2) (fun j hj1 hj2 => by rw [← hgd j hj2]; exact h3 j hj1 hj2)⟩
  have hmi : m ≤ s.length := by omega
  have him : i ≤ m := by omega
  have HLn := Lib.hid hline
  have HS := Lib.hid hstart
  have HM := Lib.hid hm
  clear h hline hlast hgd hstart hm hle2
  generalize (s.drop i).take n = u at hcut HLn HS hul
  go_enter Try.func54, Try.ntmps54
  go_wp2_with fail
  refine wp_region_sched [(0, true), (1, true), (2, true), (3, true), (4, true), (5, true), (6, true), (7, true), (8, true), (9, true), (10, true), (11, true), (12, true), (13, true), (14, true), (15, true), (16, true), (17, true)] (by kernel_rfl) (by kernel_rfl) (fun _ _ d _ _ h => by cases d <;> exact h) ?_
  refine swith (fun W hW => (cells4 (HL.out.next ((Below.refl _ _).drew.trans (hW.out.mono (Nat.le_refl _)))).box)) (fun q => ?_)
  repeat (first | (refine sreadx rfl rfl ?_; apply Exists.intro; apply And.intro; (· (intro W hW; first | (go_simp; done) | (go_simp; with_reducible rfl) | (go_simp; rw [if_neg (by omega)]; done) | (go_simp; rw [if_neg (by omega)]; with_reducible rfl))); simp only [Act.put, List.setIfInBounds_toArray, List.set_cons_zero, List.set_cons_succ]) | (refine sskip rfl rfl ?_; simp only [Act.put, List.setIfInBounds_toArray, List.set_cons_zero, List.set_cons_succ]))
  refine sdone ?_
  clear q
  have L1 := Lib.hid (HL.out.next (Below.refl _ _).drew)
  obtain ⟨⟨x0, x1⟩, x2, x3⟩ := cells4 L1.out.box
  have f0 := Lib.frozen_of_heap L1.out.box 0
  have f1 := Lib.frozen_of_heap L1.out.box 1
  have f2 := Lib.frozen_of_heap L1.out.box 2
  go_wp2_with fail
  refine (Try.strings_LastIndexByte ⟨u.toArray⟩ 10 (by simp [ByteArray.size]; omega) _).mono ?_; rintro e w2 ⟨rfl, rfl⟩
  rcases HS.out with ⟨h1, h2, h3⟩ | ⟨p, hp, h1, h2⟩
  · rw [h1]
    go_wp2_with fail
    go_ret
    refine ⟨rfl, ⟨?_, by have := HM.out; omega, hn⟩, gb_trans (gb_below (Below.refl _ _).drew _) (gb_set _ _ _ _)⟩
    have := heap_set (i := 0) L1.out.box (.int .i64 (m : Int))
    rw [h2, h3, show i + n = m from HM.out.symm]
    exact this
  · rw [h1]
    have hcnt := List.count_le_length (a := (10 : UInt8)) (l := u)
    obtain ⟨k, hk⟩ : ∃ k, u.count 10 = k := ⟨_, rfl⟩
    rw [hk] at HLn hcnt
    have hkk : Lib.countByte (ByteArray.mk u.toArray).data.toList 10 = k := by simpa [Lib.countByte] using hk
    have HKK := Lib.hid hkk
    obtain ⟨ln, hln⟩ : ∃ ln, lineOf s i = ln := ⟨_, rfl⟩
    have hwl : IntKind.i64.wrap ((ln : Int) + (k : Int)) = ((ln : Int) + (k : Int)) := IntWalk.i64_in _ (by omega)
    rw [hln] at x1
    clear hk hkk
    go_wp2_with fail
    refine wp_region_still_tail 11 (by kernel_rfl) (by kernel_rfl) ?_
    have L2 := Lib.hid (L1.out.next (Below.refl _ _).drew)
    have G2 : Hid (w.grownBy w.drew.drew (some g)) := Lib.hid (gb_below (Below.refl _ _).drew.drew _)
    change wpStill _ _ (w.drew.drew) (fun a' => wpList _ _ _ _ a' (w.drew.drew)) _ _
    clear x0 x1 x2 x3 f0 f1 f2 L1
    generalize w.drew.drew = w2 at *
    obtain ⟨⟨x0, x1⟩, x2, x3⟩ := cells4 L2.out.box
    rw [hln] at x1
    have f0 := Lib.frozen_of_heap L2.out.box 0
    have f1 := Lib.frozen_of_heap L2.out.box 1
    have f2 := Lib.frozen_of_heap L2.out.box 2
    simp only [List.take_succ_cons, List.take_zero, List.drop_succ_cons, List.drop_zero]
    repeat still_step
    still_call (Try.strings_Count_one ⟨u.toArray⟩ 10 _)
    rw [HKK.out]
    repeat still_step
    refine wpStill_nil ?_
    go_wp2_with fail
    go_ret
    refine ⟨rfl, ⟨?_, by have := HM.out; omega, hn⟩, gb_trans G2.out (gb_trans (gb_trans (gb_set _ _ _ _) (gb_set _ _ _ _)) (gb_set _ _ _ _))⟩
    have := heap_set (i := 0) (heap_set (i := 2) (heap_set (i := 1) L2.out.box (.int .i64 ((ln : Int) + (k : Int)))) (.int .i64 ((i : Int) + (p : Int) + 1))) (.int .i64 (m : Int))
    have e2 : ((lineOf s (i + n) : Nat) : Int) = (ln : Int) + (k : Int) := by rw [HLn.out, hln]; omega
    have e3 : ((startOf s (i + n) : Nat) : Int) = (i : Int) + (p : Int) + 1 := by rw [h2]; omega
    rw [e2, e3, show i + n = m from HM.out.symm]
    exact this
/-- How far the reader has gone: the measure of a loop. -/
def offW (w : World) (g : Nat) : Nat := match w.cell? ⟨g, 0, none⟩ with
  | some (.int _ n) => n.toNat
  | _ => 0
theorem Lx.off {w : World} {g : Nat} {s : List UInt8} {i : Nat} (h : Lx w g s i) : offW w g = i := by
  unfold offW
  rw [(cells4 h.box).1.1]
  simp
theorem drop_take_len {s : List UInt8} {i : Nat} (p : UInt8 → Bool) (h : i ≤ s.length) : i + runLen p (s.drop i) ≤ s.length := by
  have := runLen_le p (s.drop i)
  simp at this
  omega
theorem skip_at_blank {s : List UInt8} {i : Nat} : skip (s.drop (i + runLen blankC (s.drop i))) = skip (s.drop i) := by
  rw [← List.drop_drop, drop_run, skip_while]
theorem skip_at_note {s : List UInt8} {i : Nat} (hi : i < s.length) (h : (s[i]).toNat = 35) : skip (s.drop (i + runLen noteC (s.drop i))) = skip (s.drop i) ∧ 0 < runLen noteC (s.drop i) := by
  have e : s.drop i = s[i] :: s.drop (i + 1) := List.drop_eq_getElem_cons hi
  have hn : noteC s[i] = true := by unfold noteC; simp; omega
  constructor
  · rw [← List.drop_drop, drop_run, e, skip_note _ h, List.dropWhile_cons, if_pos hn]
  · rw [e]; unfold runLen; rw [if_pos hn]; omega
theorem run_stop (p : UInt8 → Bool) : ∀ (t : List UInt8) (h : runLen p t < t.length), p (t[runLen p t]) = false
  | [], h => by simp [runLen] at h
  | c :: r, h => by
    by_cases hc : p c = true
    · have e : runLen p (c :: r) = runLen p r + 1 := by conv => lhs; unfold runLen
                                                        rw [if_pos hc]
      have h' : runLen p r < r.length := by rw [e] at h; simpa using h
      have := run_stop p r h'
      simp only [e, List.getElem_cons_succ]
      exact this
    · have e : runLen p (c :: r) = 0 := by unfold runLen; rw [if_neg hc]
      simp only [e, List.getElem_cons_zero]
      simpa using hc
set_option maxHeartbeats 1000000 in
set_option maxRecDepth 100000 in
theorem gap_any (g : Nat) (s : List UInt8) (i : Nat) (w : World) (h : Lx w g s i) : Calls Try.prog 37 #[.pointer (some ⟨g, 0, none⟩)] w fun e w' => e = .returned (.tuple #[]) ∧ Lx w' g s (s.length - (skip (s.drop i)).length) ∧ w.grownBy w' (some g) := by
  have hn := h.n
  have HL := Lib.hid h
  have hsz : (ByteArray.mk s.toArray).size = s.length := by simp [ByteArray.size]
  clear h
  go_enter Try.func37, Try.ntmps37
  go_wp2_with fail
  go_loopw [] (fun wr => ∃ j : Nat, Hid (skip (s.drop j) = skip (s.drop i)) ∧ Lx wr g s j ∧ w.grownBy wr (some g)) (fun wr => s.length - offW wr g)
  case atStart => exact ⟨i, Lib.hid rfl, HL.out, gb_below (Below.refl _ _) _⟩
  case round =>
    obtain ⟨j, hj, hL, hG⟩ := hrel
    have hof := Lib.hid hL.off
    have hji := hL.i
    have H0 := Lib.hid hL
    have G0 := Lib.hid hG
    clear hL hG
    go_wp2_with fail
    refine (run_blank g s j _ H0.out).mono ?_; rintro e w1 ⟨rfl, b1⟩
    have L1 := Lib.hid (H0.out.next b1)
    have G1 := Lib.hid (gb_trans G0.out (gb_below b1 (some g)))
    have hk := drop_take_len blankC hji
    have hst : Hid (∀ hh : j + runLen blankC (s.drop j) < s.length, blankC s[j + runLen blankC (s.drop j)] = false) := Lib.hid (fun hh => by
      have h1 : runLen blankC (s.drop j) < (s.drop j).length := by simp; omega
      have := run_stop blankC (s.drop j) h1
      simpa using this)
    have hsk := Lib.hid ((skip_at_blank (s := s) (i := j)).trans hj.out)
    generalize runLen blankC (s.drop j) = k1 at *
    clear b1
    go_wp2_with fail
    refine (pass_any g s j k1 _ L1.out hk).mono ?_; rintro e w2 ⟨rfl, l2, g2⟩
    have L2 := Lib.hid l2
    have G2 := Lib.hid (gb_trans G1.out g2)
    clear l2 g2 L1 G1
    obtain ⟨j1, hj1⟩ : ∃ j1, j + k1 = j1 := ⟨_, rfl⟩
    rw [hj1] at hk hst hsk L2
    by_cases hend : j1 = s.length
    · have d1 : ((j1 : Int) == (s.length : Int)) = true := by simp; omega
      have hres : Hid (s.length - (skip (s.drop i)).length = j1) := Lib.hid (by
        rw [← hsk.out, hend, List.drop_length, skip_nil]; simp)
      have HE := Lib.hid hend
      clear hend hj1
      go_wp2_with fail
      refine wp_region_sched [(0, true), (1, true), (2, true), (3, true), (4, true), (5, true), (6, true), (7, true), (8, true), (9, true), (10, true), (11, true), (12, true), (13, true), (14, true), (15, true), (16, true), (17, true), (18, true), (19, true), (20, true), (21, true), (22, true), (23, true)] (by kernel_rfl) (by kernel_rfl) (fun _ _ d _ _ h => by cases d <;> exact h) ?_
      refine swith (fun W hW => (cells4 (L2.out.next ((Below.refl _ _).drew.trans (hW.out.mono (Nat.le_refl _)))).box)) (fun q => ?_)
      repeat (first | (refine sreadx rfl rfl ?_; apply Exists.intro; apply And.intro; (· (intro W hW; first | (go_simp; done) | (go_simp; with_reducible rfl) | (go_simp; rw [if_neg (by omega)]; done) | (go_simp; rw [if_neg (by omega)]; with_reducible rfl))); simp only [Act.put, List.setIfInBounds_toArray, List.set_cons_zero, List.set_cons_succ]) | (refine sskip rfl rfl ?_; simp only [Act.put, List.setIfInBounds_toArray, List.set_cons_zero, List.set_cons_succ]))
      refine sdone ?_
      clear q
      go_wp2_with fail
      first | go_end0 | refine bodyPost_ret (results_none rfl _ _ _) rfl ?_
      exact ⟨rfl, by rw [hres.out]; exact L2.out.next (Below.refl _ _).drew, gb_trans G2.out (gb_below (Below.refl _ _).drew _)⟩
    · have d1 : ((j1 : Int) == (s.length : Int)) = false := by simp; omega
      have hlt : j1 < s.length := by omega
      have hnb := hst.out hlt
      have hnote : Hid ((s[j1]).toNat = 35 → skip (s.drop (j1 + runLen noteC (s.drop j1))) = skip (s.drop i) ∧ 0 < runLen noteC (s.drop j1)) := Lib.hid (fun h35 => by
        have := skip_at_note hlt h35
        exact ⟨this.1.trans hsk.out, this.2⟩)
      have hres : Hid ((s[j1]).toNat ≠ 35 → s.length - (skip (s.drop i)).length = j1) := Lib.hid (fun h35 => by
        rw [← hsk.out, List.drop_eq_getElem_cons hlt, skip_stop _ hnb h35]
        simp; omega)
      generalize hc : s[j1] = c at hnote hres hnb
      have hx := ba_at s j1 hlt hc
      clear hc hnb hend hst
      by_cases h35 : c.toNat = 35
      · have e1 : ((c.toNat : Int) != 35) = false := by simp; omega
        have e1' : ((c.toNat : Int) == 35) = true := by simp; omega
        obtain ⟨hn1, hn2⟩ := hnote.out h35
        have HN1 := Lib.hid hn1
        have H35 := Lib.hid h35
        have HJ := Lib.hid hj1
        have hj1' : j + k1 ≤ j1 := by omega
        have hjj : j ≤ j1 := by omega
        clear hn1 h35 hj1
        go_wp2_with fail
        refine wp_region_sched [(0, true), (1, true), (2, true), (3, true), (4, true), (5, true), (6, true), (7, true), (8, true), (9, true), (10, true), (11, true), (12, true), (13, true), (14, true), (15, true), (16, true), (17, true), (18, true), (19, true), (20, true), (21, true), (22, true), (23, true)] (by kernel_rfl) (by kernel_rfl) (fun _ _ d _ _ h => by cases d <;> exact h) ?_
        refine swith (fun W hW => (cells4 (L2.out.next ((Below.refl _ _).drew.trans (hW.out.mono (Nat.le_refl _)))).box)) (fun q => ?_)
        repeat (first | (refine sreadx rfl rfl ?_; apply Exists.intro; apply And.intro; (· (intro W hW; first | (go_simp; done) | (go_simp; with_reducible rfl) | (go_simp; rw [if_neg (by omega)]; done) | (go_simp; rw [if_neg (by omega)]; with_reducible rfl))); simp only [Act.put, List.setIfInBounds_toArray, List.set_cons_zero, List.set_cons_succ]) | (refine sskip rfl rfl ?_; simp only [Act.put, List.setIfInBounds_toArray, List.set_cons_zero, List.set_cons_succ]))
        refine sdone ?_
        clear q
        have L3 := Lib.hid (L2.out.next (Below.refl _ _).drew)
        have G3 := Lib.hid (gb_trans G2.out (gb_below (Below.refl _ _).drew (some g)))
        go_wp2_with fail
        refine (run_note g s j1 _ L3.out).mono ?_; rintro e w4 ⟨rfl, b4⟩
        have L4 := Lib.hid (L3.out.next b4)
        have G4 := Lib.hid (gb_trans G3.out (gb_below b4 (some g)))
        have hk4 := drop_take_len noteC (Nat.le_of_lt hlt)
        generalize runLen noteC (s.drop j1) = k2 at *
        clear b4 L3 G3
        go_wp2_with fail
        refine (pass_any g s j1 k2 _ L4.out hk4).mono ?_; rintro e w5 ⟨rfl, l5, g5⟩
        have L5 := Lib.hid l5
        have G5 := Lib.hid (gb_trans G4.out g5)
        clear l5 g5 L4 G4
        go_wp2_with fail
        go_roundw
        case rel => exact ⟨j1 + k2, HN1, L5.out, G5.out⟩
        case measure => rw [L5.out.off, hof.out]; omega
      · have e1 : ((c.toNat : Int) != 35) = true := by simp; omega
        have e1' : ((c.toNat : Int) == 35) = false := by simp; omega
        have hr := Lib.hid (hres.out h35)
        have HJ := Lib.hid hj1
        clear h35 hj1
        go_wp2_with fail
        refine wp_region_sched [(0, true), (1, true), (2, true), (3, true), (4, true), (5, true), (6, true), (7, true), (8, true), (9, true), (10, true), (11, true), (12, true), (13, true), (14, true), (15, true), (16, true), (17, true), (18, true), (19, true), (20, true), (21, true), (22, true), (23, true)] (by kernel_rfl) (by kernel_rfl) (fun _ _ d _ _ h => by cases d <;> exact h) ?_
        refine swith (fun W hW => (cells4 (L2.out.next ((Below.refl _ _).drew.trans (hW.out.mono (Nat.le_refl _)))).box)) (fun q => ?_)
        repeat (first | (refine sreadx rfl rfl ?_; apply Exists.intro; apply And.intro; (· (intro W hW; first | (go_simp; done) | (go_simp; with_reducible rfl) | (go_simp; rw [if_neg (by omega)]; done) | (go_simp; rw [if_neg (by omega)]; with_reducible rfl))); simp only [Act.put, List.setIfInBounds_toArray, List.set_cons_zero, List.set_cons_succ]) | (refine sskip rfl rfl ?_; simp only [Act.put, List.setIfInBounds_toArray, List.set_cons_zero, List.set_cons_succ]))
        refine sdone ?_
        clear q
        go_wp2_with fail
        first | go_end0 | refine bodyPost_ret (results_none rfl _ _ _) rfl ?_
        exact ⟨rfl, by rw [hr.out]; exact L2.out.next (Below.refl _ _).drew, gb_trans G2.out (gb_below (Below.refl _ _).drew _)⟩
end Go.Proofs.Ytpodniljpinigaa.X
