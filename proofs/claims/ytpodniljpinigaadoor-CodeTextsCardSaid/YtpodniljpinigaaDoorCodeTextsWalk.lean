/- CodeTexts' walk: for every two codes and every text it returns true. -/
import Derived.Test.YtpodniljpinigaaDoorCodeTidy
import Derived.Test.YtpodniljpinigaaDoorCodeSame
import Derived.Test.YtpodniljpinigaaDoorCodeLaw
import Derived.Test.YtpodniljpinigaaDoorSchedApp
import Derived.Test.YtpodniljpinigaaDoorSched
namespace Go.Proofs.YtpodniljpinigaaDoor.codeTexts
open Go.RowKit O V C

theorem cut_ba (l : List UInt8) (k m : Nat) (h : min l.length k = m) : (ByteArray.mk l.toArray).extract 0 m = ⟨(l.take k).toArray⟩ := by
  apply ByteArray.ext
  simp [List.extract_eq_take_drop]
  omega
/-- The two codes' boxes. -/
structure TB (w : World) (A : Option Addr) (n c : Nat) (x : Cd) (A' : Option Addr) (n' c' : Nat) (y : Cd) (W : World) : Prop where
  bx : W.heap[w.heap.size]? = some (.cells #[.slice A n c, .int .i64 x.r, .int .i64 x.l, .int .i64 x.k] 24 (0, 0))
  by_ : W.heap[w.heap.size + 1]? = some (.cells #[.slice A' n' c', .int .i64 y.r, .int .i64 y.l, .int .i64 y.k] 24 (0, 0))
  be : Below w.heap.size w W
theorem TB.next {w W W' : World} {A A' : Option Addr} {n c n' c' : Nat} {x y : Cd} (h : TB w A n c x A' n' c' y W) (b : Below W.heap.size W W') : TB w A n c x A' n' c' y W' := ⟨box_next h.bx b, box_next h.by_ b, bthen h.be b⟩
theorem TB.drew {w W : World} {A A' : Option Addr} {n c n' c' : Nat} {x y : Cd} (h : TB w A n c x A' n' c' y W) : TB w A n c x A' n' c' y W.drew := ⟨h.bx, h.by_, h.be.drew⟩
theorem TB.grown {w W W' : World} {A A' : Option Addr} {n c n' c' : Nat} {x y : Cd} {row : Option Nat} (h : TB w A n c x A' n' c' y W) (g : W.grownBy W' row) (hr : ∀ j, row = some j → w.heap.size + 2 ≤ j) : TB w A n c x A' n' c' y W' := by
  have l1 : w.heap.size < W.heap.size := (Array.getElem?_eq_some_iff.1 h.bx).1
  have l2 : w.heap.size + 1 < W.heap.size := (Array.getElem?_eq_some_iff.1 h.by_).1
  refine ⟨?_, ?_, ?_⟩
  · rw [g.block _ l1 (fun e => by have := hr _ e.symm; omega)]; exact h.bx
  · rw [g.block _ l2 (fun e => by have := hr _ e.symm; omega)]; exact h.by_
  · exact h.be.trans ⟨g.os, g.tape, g.output, g.size, fun i hi => g.block i (Nat.lt_trans hi l1) (fun e => by have := hr _ e.symm; omega)⟩
theorem irow_of {w : World} {base e n c : Nat} {A : Option Addr} {l : List Ins} {xs : List Value} (h : w.ownsRow base e 8 (.slice A n c) n xs) (hp : Reps InsD l xs) : IRow w A n c l := ⟨⟨xs, Rd.of_own h, hp⟩, own_capC h⟩
theorem parseA_len (s : List UInt8) : (parseA s).1.ins.length ≤ s.length := by
  by_cases h : (parseA s).2 = 0
  · exact (parseA_back (s := s) (c := (parseA s).1) (Prod.ext rfl h)).2.2.2.2.2
  · rw [parseA_zero h]; exact Nat.zero_le _
theorem flatI {l : List Ins} {xs : List Value} (h : Reps InsD l xs) : xs = l.flatMap insC := Reps.to_fun insC h
set_option maxHeartbeats 4000000 in
set_option maxRecDepth 100000 in
theorem walk (v0 : Value) (x : Cd) (v1 : Value) (y : Cd) (s : ByteArray) (w : World) (h0 : IsCode w v0 x) (h1 : IsCode w v1 y) (hs : s.size ≤ maxLen) :
    Calls Tryd.prog 5 #[v0, v1, .string s] w fun e w' => e = .returned (.bool true) ∧ Below w.heap.size w w' := by
  obtain ⟨A, n, c, rfl, hx, ox, hc⟩ := h0
  obtain ⟨A', n', c', rfl, hy, oy, hc'⟩ := h1
  obtain ⟨l0, rfl⟩ : ∃ l0 : List UInt8, s = ⟨l0.toArray⟩ := ⟨s.data.toList, by cases s; simp⟩
  have hsz : (ByteArray.mk l0.toArray).size = l0.length := by simp [ByteArray.size]
  rw [hsz] at hs
  unfold maxLen at hs hc hc'
  have hn := hx.n
  have hn' := hy.n
  obtain ⟨m, hm⟩ : ∃ m : Nat, min l0.length 1500 = m := ⟨_, rfl⟩
  have ex : min (l0.length : Int) 1500 = (m : Int) := by omega
  have hm2 : (m : Int) ≤ (l0.length : Int) := by omega
  have hcut := cut_ba l0 1500 m hm
  have hll : (l0.take 1500).length ≤ 1500 := by simp; omega
  generalize l0.take 1500 = l at hcut hll
  clear hm
  have hT : TB w A n c x A' n' c' y ((w.alloc (.cells #[.slice A n c, .int .i64 x.r, .int .i64 x.l, .int .i64 x.k] 24)).alloc (.cells #[.slice A' n' c', .int .i64 y.r, .int .i64 y.l, .int .i64 y.k] 24)) :=
    ⟨alloc_old' (alloc_at rfl), alloc_at (by simp), ((Below.refl _ _).alloc (Nat.le_refl _) _).alloc (by simp) _⟩
  have HT := Lib.hid hT
  have hS2 : ((w.alloc (.cells #[.slice A n c, .int .i64 x.r, .int .i64 x.l, .int .i64 x.k] 24)).alloc (.cells #[.slice A' n' c', .int .i64 y.r, .int .i64 y.l, .int .i64 y.k] 24)).heap.size = w.heap.size + 2 := by simp
  obtain ⟨x0, x1, x2, x3⟩ := cells4d hT.bx
  obtain ⟨y0, y1, y2, y3⟩ := cells4d hT.by_
  have HX := Lib.hid hx
  have HY := Lib.hid hy
  clear hT hx hy
  unfold cdV
  have hni : (n : Int) ≤ 9223372036854775807 := by omega
  have hni' : (n' : Int) ≤ 9223372036854775807 := by omega
  by_cases h60 : (n : Int) > 60
  · have d1 : decide ((n : Int) > 60) = true := by simpa using h60
    have h60n : 60 < n := by omega
    go_enter Tryd.func5, Tryd.ntmps5
    go_wp2_with fail
    refine (clives_any _).mono ?_; rintro e w1 ⟨rfl, b1⟩
    go_wp2_with fail
    go_ret
    exact ⟨rfl, bthen HT.out.be b1⟩
  · have d1 : decide ((n : Int) > 60) = false := by simpa using h60
    have h60n : ¬ 60 < n := by omega
    by_cases h61 : (n' : Int) > 60
    · have d2 : decide ((n' : Int) > 60) = true := by simpa using h61
      have h61n : 60 < n' := by omega
      go_enter Tryd.func5, Tryd.ntmps5
      go_wp2_with fail
      refine (clives_any _).mono ?_; rintro e w1 ⟨rfl, b1⟩
      go_wp2_with fail
      go_ret
      exact ⟨rfl, bthen HT.out.be b1⟩
    · have d2 : decide ((n' : Int) > 60) = false := by simpa using h61
      have h61n : ¬ 60 < n' := by omega
      go_enter Tryd.func5, Tryd.ntmps5
      go_wp2_with fail
      generalize ((w.alloc (.cells #[.slice A n c, .int .i64 x.r, .int .i64 x.l, .int .i64 x.k] 24)).alloc (.cells #[.slice A' n' c', .int .i64 y.r, .int .i64 y.l, .int .i64 y.k] 24)) = W2 at *
      obtain ⟨xs, hrx, hpx⟩ := HX.out.rd
      obtain ⟨ys, hry, hpy⟩ := HY.out.rd
      have h1x : ∀ u ∈ xs, u.oneCell' = true := hpx.all InsD.one
      have h1y : ∀ u ∈ ys, u.oneCell' = true := hpy.all InsD.one
      have HRX := Lib.hid hrx
      have HRY := Lib.hid hry
      have HPP := Lib.hid (hpx.append hpy)
      have HONE := Lib.hid (And.intro h1x h1y)
      clear hrx hry hpx hpy h1x h1y x0 x1 x2 x3 y0 y1 y2 y3
      refine wp_region_schedB [w.heap.size, w.heap.size + 1] [(1, true), (2, true), (4, true), (5, true), (8, true), (0, false), (3, false), (6, false), (7, true)] (by kernel_rfl) (by kernel_rfl) (fun _ _ d _ _ h => by cases d <;> exact h) ?_
      refine bwith (fun W hW => (cells4d ((hW w.heap.size (by simp)).trans HT.out.bx))) (fun q0 => ?_)
      refine bwith (fun W hW => (cells4d ((hW (w.heap.size + 1) (by simp)).trans HT.out.by_))) (fun q1 => ?_)
      repeat (first | (refine sreadxB rfl rfl ?_; apply Exists.intro; apply And.intro; (· (intro W hW; first | (go_simp; done) | (go_simp; with_reducible rfl) | (go_simp; rw [if_neg (by omega)]; done) | (go_simp; rw [if_neg (by omega)]; with_reducible rfl))); simp only [Act.put, List.setIfInBounds_toArray, List.set_cons_zero, List.set_cons_succ]) | (refine bskip rfl rfl ?_; simp only [Act.put, List.setIfInBounds_toArray, List.set_cons_zero, List.set_cons_succ]))
      have hO2 := own_mtb W2 (e := 29) (size := 8) hS2.symm (Nat.le_refl _)
      have HB3 := Lib.hid (HT.out.be.alloc (by omega) (.cells #[] 29)).drew
      refine bcall rfl rfl (fun K hK => ?_)
      go_simp
      refine hK.out _ _ (KB.of_below ((Below.refl _ _).alloc (Nat.le_refl _) _) (fun k hk => by simp at hk; rcases hk with rfl | rfl <;> simp <;> omega)) ?_
      clear hK K
      try simp only [Act.put, List.setIfInBounds_toArray, List.set_cons_zero, List.set_cons_succ]
      refine bapp rfl rfl (.tmp 29) (.tmp 31) insE rfl (w.heap.size + 2) [] rfl hO2 rfl xs (HRX.out.next HB3.out) HONE.out.1 (by unfold maxLen; omega) (by omega) (by simp; omega) (fun b hb => by simp at hb; omega) (Nat.zero_add n) (List.nil_append xs) ?_
      intro A3 c3 w3 o3 g3
      have hown3 : ∀ g, (Value.slice (some ⟨w.heap.size + 2, 0, none⟩) 0 0).ownBlock = some g → w.heap.size + 2 ≤ g := fun g hg => (hO2.lt g hg).1
      have hT3 := (HT.out.next ((Below.refl _ _).alloc (Nat.le_refl _) (.cells #[] 29))).drew
      have HT3 := Lib.hid (hT3.grown g3 hown3)
      have HB3' := Lib.hid HT3.out.be
      try simp only [Act.put, List.setIfInBounds_toArray, List.set_cons_zero, List.set_cons_succ]
      refine bapp rfl rfl (.tmp 32) (.tmp 34) insE rfl (w.heap.size + 2) xs rfl o3 rfl ys (HRY.out.next HB3'.out) HONE.out.2 (by unfold maxLen; omega) (by omega) (by have := g3.size; simp at this; omega) (fun b hb => by simp at hb; omega) rfl rfl ?_
      intro A4 c4 w4 o4 g4
      have HT4 := Lib.hid (HT3.out.grown g4 (fun g hg => (o3.lt g hg).1))
      have HI4 := Lib.hid (irow_of o4 HPP.out)
      obtain ⟨N, hN⟩ : ∃ N, n + n' = N := ⟨_, rfl⟩
      rw [hN] at o4 HI4 ⊢
      try simp only [Act.put, List.setIfInBounds_toArray, List.set_cons_zero, List.set_cons_succ]
      repeat (first | (refine sreadxB rfl rfl ?_; apply Exists.intro; apply And.intro; (· (intro W hW; first | (go_simp; done) | (go_simp; with_reducible rfl) | (go_simp; rw [if_neg (by omega)]; done) | (go_simp; rw [if_neg (by omega)]; with_reducible rfl))); simp only [Act.put, List.setIfInBounds_toArray, List.set_cons_zero, List.set_cons_succ]) | (refine bskip rfl rfl ?_; simp only [Act.put, List.setIfInBounds_toArray, List.set_cons_zero, List.set_cons_succ]))
      refine bdone ?_
      have HNN := Lib.hid hN
      have hNl : N ≤ 120 := by omega
      clear o3 g3 o4 g4 HB3 HB3' hT3 HT3 hown3 hO2 q0 q1 HRX HRY HPP HONE hN xs ys HT
      go_wp2_with fail
      go_loopw [6, 37] (fun _ iv wr => ∃ j : Nat, j ≤ N ∧ iv = .int .i64 (j : Int) ∧ Hid (∀ q ∈ (x.ins ++ y.ins).take j, q.v.s.length ≤ 100) ∧ Hid (Below w4.heap.size w4 wr)) (fun _ iv _ => N - (intOf iv).toNat)
      case atStart => exact ⟨0, by omega, rfl, Lib.hid (by simp), Lib.hid (Below.refl _ _)⟩
      case round =>
        obtain ⟨j, hj, rfl, HL, HB⟩ := hrel
        have hlen := HI4.out.len
        by_cases hlt : j < N
        · have hji : (j : Int) < (N : Int) := by omega
          have hjl : j < (x.ins ++ y.ins).length := by rw [hlen]; exact hlt
          obtain ⟨b1, off, rfl, hbl, hc8⟩ := HI4.out.at8 hjl
          obtain ⟨c0, c1, c2, c3, c4, c5, c6, c7⟩ := hc8 wr HB.out
          have HTK : Hid ((x.ins ++ y.ins).take (j + 1) = (x.ins ++ y.ins).take j ++ [(x.ins ++ y.ins)[j]]) := Lib.hid (List.take_succ_eq_append_getElem hjl)
          have hqs : ((x.ins ++ y.ins)[j]).v.s.length ≤ 9223372036854775807 := by
            have hmem := List.getElem_mem hjl
            rcases List.mem_append.1 hmem with h | h
            · have := (ox.i _ h).v.s; unfold maxLen at this; omega
            · have := (oy.i _ h).v.s; unfold maxLen at this; omega
          clear hc8
          generalize (x.ins ++ y.ins)[j] = q at *
          clear hjl hlen
          go_wp2_with fail
          refine (light_any q _ (by omega)).mono ?_; rintro e w5 ⟨rfl, b5⟩
          have HB5 := Lib.hid (bthen HB.out (bthen ((Below.refl _ _).alloc (Nat.le_refl _) _) b5))
          by_cases hq : (q.v.s.length : Int) ≤ 100
          · rw [decide_eq_true hq]
            have hq' : q.v.s.length ≤ 100 := by omega
            go_wp2_with fail
            go_roundw
            case rel => exact ⟨j + 1, by omega, by go_num, Lib.hid (fun z hz => by
              rw [HTK.out] at hz
              rcases List.mem_append.1 hz with h | h
              · exact HL.out z h
              · rw [List.mem_singleton] at h; rw [h]; exact hq'), HB5⟩
            case measure => simp [intOf]; omega
          · rw [decide_eq_false hq]
            clear b5
            go_wp2_with fail
            refine (clives_any _).mono ?_; rintro e w6 ⟨rfl, b6⟩
            go_wp2_with fail
            go_ret
            exact ⟨rfl, bthen HT4.out.be (bthen HB5.out b6)⟩
        · obtain rfl : j = N := by omega
          have hL := HL.out
          rw [List.take_of_length_le (by omega)] at hL
          have hox : ∀ q ∈ x.ins, okP q := fun q hq => C.InsOk.okP (ox.i q hq) (by have := hL q (by simp [hq]); omega)
          have hoy : ∀ q ∈ y.ins, okP q := fun q hq => C.InsOk.okP (oy.i q hq) (by have := hL q (by simp [hq]); omega)
          have HOX := Lib.hid hox
          have HOY := Lib.hid hoy
          have HT5 := Lib.hid (HT4.out.next HB.out)
          clear hL hox hoy HL HB hlen
          go_wp2_with fail
          refine (cparseA_any l _ (by omega)).mono ?_; rintro e w6 ⟨⟨P, p, pc, rfl, hI6⟩, b6⟩
          have hple := parseA_len l
          have hpl := hI6.len
          obtain ⟨pa, hpa⟩ : ∃ pa, parseA l = pa := ⟨_, rfl⟩
          rw [hpa] at hI6 hple hpl ⊢
          have HPA := Lib.hid hpa
          clear hpa
          obtain ⟨⟨r, lc, kc, zs⟩, k⟩ := pa
          dsimp only at hI6 hple hpl ⊢
          have hp5 : p ≤ 5000 := by omega
          have HT6 := Lib.hid ((HT5.out.next b6).next ((Below.refl _ _).alloc (Nat.le_refl _) (.cells #[.slice P p pc, .int .i64 r, .int .i64 lc, .int .i64 kc] 24)))
          have HP6 := Lib.hid (heap_alloc_new w6 (.cells #[.slice P p pc, .int .i64 r, .int .i64 lc, .int .i64 kc] 24))
          have HI6 := Lib.hid (hI6.next ((Below.refl _ _).alloc (Nat.le_refl _) (.cells #[.slice P p pc, .int .i64 r, .int .i64 lc, .int .i64 kc] 24)))
          clear hI6 b6
          unfold cdV
          go_wp2_with fail
          refine (rparseA_any l _ (by omega)).mono ?_; rintro e w8 ⟨⟨P', p', pc', he, hI8⟩, b8⟩
          rw [HPA.out] at he hI8
          dsimp only at he hI8
          subst he
          have hg6 : w6.heap.size < w8.heap.size := by have := b8.size; simp at this; omega
          have HT8 := Lib.hid ((HT6.out.next b8).next ((Below.refl _ _).alloc (Nat.le_refl _) (.cells #[.slice P' p' pc', .int .i64 r, .int .i64 lc, .int .i64 kc] 24)))
          have HP8 := Lib.hid (box_next (box_next HP6.out b8) ((Below.refl _ _).alloc (Nat.le_refl _) (.cells #[.slice P' p' pc', .int .i64 r, .int .i64 lc, .int .i64 kc] 24)))
          have HQ8 := Lib.hid (heap_alloc_new w8 (.cells #[.slice P' p' pc', .int .i64 r, .int .i64 lc, .int .i64 kc] 24))
          have HI8 := Lib.hid ((HI6.out.next b8).next ((Below.refl _ _).alloc (Nat.le_refl _) (.cells #[.slice P' p' pc', .int .i64 r, .int .i64 lc, .int .i64 kc] 24)))
          have HJ8 := Lib.hid (hI8.next ((Below.refl _ _).alloc (Nat.le_refl _) (.cells #[.slice P' p' pc', .int .i64 r, .int .i64 lc, .int .i64 kc] 24)))
          clear hI8 b8 HT6 HP6 HI6 HT5 HT4 HI4
          unfold cdV
          go_wp2_with fail
          generalize (w8.alloc (.cells #[.slice P' p' pc', .int .i64 r, .int .i64 lc, .int .i64 kc] 24)) = W8 at *
          refine wp_region_sched [(0, true), (2, true), (1, false), (3, false), (4, true), (5, true), (6, true), (7, true), (8, false), (9, true), (10, true), (11, true), (12, true), (13, true), (14, true), (15, true), (16, true), (17, true), (19, true), (20, true), (18, false), (21, false), (22, true), (23, true), (24, true), (25, true), (26, true), (27, false), (28, true), (29, true), (30, false), (31, true), (32, true)] (by kernel_rfl) (by kernel_rfl) (fun _ _ d _ _ h => by cases d <;> exact h) ?_
          refine sbelow (w0 := W8) ((Below.refl _ _).drew) (fun B0 => ?_)
          refine swith (fun W hW => (cells4d (box_next HT8.out.bx (bthen B0 hW.out)))) (fun qx => ?_)
          refine swith (fun W hW => (cells4d (box_next HT8.out.by_ (bthen B0 hW.out)))) (fun qy => ?_)
          refine swith (fun W hW => (cells4d (box_next HP8.out (bthen B0 hW.out)))) (fun qp => ?_)
          refine swith (fun W hW => (cells4d (box_next HQ8.out (bthen B0 hW.out)))) (fun qq => ?_)
          repeat (first | (refine sreadx rfl rfl ?_; apply Exists.intro; apply And.intro; (· (intro W hW; first | (go_simp; done) | (go_simp; with_reducible rfl) | (go_simp; rw [if_neg (by omega)]; done) | (go_simp; rw [if_neg (by omega)]; with_reducible rfl))); simp only [Act.put, List.setIfInBounds_toArray, List.set_cons_zero, List.set_cons_succ]) | (refine sskip rfl rfl ?_; simp only [Act.put, List.setIfInBounds_toArray, List.set_cons_zero, List.set_cons_succ]))
          refine scall rfl rfl (fun K hK => ?_)
          go_simp
          refine (cprintA_any A n c x.r x.l x.k x.ins _ (HX.out.next (HT8.out.next B0).be) (by omega) HOX.out ox.r ox.l ox.k).mono ?_; rintro e w9 ⟨rfl, b9⟩
          go_wp2_with fail
          refine hK.out _ _ (by exact b9) ?_
          clear hK K
          try simp only [Act.put, List.setIfInBounds_toArray, List.set_cons_zero, List.set_cons_succ]
          replace qx := fun (W : World) (hW : Grow w9 W) => qx W (Grow.trans (b9) hW)
          replace qy := fun (W : World) (hW : Grow w9 W) => qy W (Grow.trans (b9) hW)
          replace qp := fun (W : World) (hW : Grow w9 W) => qp W (Grow.trans (b9) hW)
          replace qq := fun (W : World) (hW : Grow w9 W) => qq W (Grow.trans (b9) hW)
          have B9 := bthen B0 b9
          repeat (first | (refine sreadx rfl rfl ?_; apply Exists.intro; apply And.intro; (· (intro W hW; first | (go_simp; done) | (go_simp; with_reducible rfl) | (go_simp; rw [if_neg (by omega)]; done) | (go_simp; rw [if_neg (by omega)]; with_reducible rfl))); simp only [Act.put, List.setIfInBounds_toArray, List.set_cons_zero, List.set_cons_succ]) | (refine sskip rfl rfl ?_; simp only [Act.put, List.setIfInBounds_toArray, List.set_cons_zero, List.set_cons_succ]))
          refine scall rfl rfl (fun K hK => ?_)
          go_simp
          refine (rprintA_any A n c x.r x.l x.k x.ins _ (HX.out.next (HT8.out.next B9).be) (by omega) HOX.out ox.r ox.l ox.k).mono ?_; rintro e w10 ⟨rfl, b10⟩
          go_wp2_with fail
          refine hK.out _ _ (by exact b10) ?_
          clear hK K
          try simp only [Act.put, List.setIfInBounds_toArray, List.set_cons_zero, List.set_cons_succ]
          replace qx := fun (W : World) (hW : Grow w10 W) => qx W (Grow.trans (b10) hW)
          replace qy := fun (W : World) (hW : Grow w10 W) => qy W (Grow.trans (b10) hW)
          replace qp := fun (W : World) (hW : Grow w10 W) => qp W (Grow.trans (b10) hW)
          replace qq := fun (W : World) (hW : Grow w10 W) => qq W (Grow.trans (b10) hW)
          have B10 := bthen B9 b10
          generalize printA ⟨x.r, x.l, x.k, x.ins⟩ = pt
          repeat (first | (refine sreadx rfl rfl ?_; apply Exists.intro; apply And.intro; (· (intro W hW; first | (go_simp; done) | (go_simp; with_reducible rfl) | (go_simp; rw [if_neg (by omega)]; done) | (go_simp; rw [if_neg (by omega)]; with_reducible rfl))); simp only [Act.put, List.setIfInBounds_toArray, List.set_cons_zero, List.set_cons_succ]) | (refine sskip rfl rfl ?_; simp only [Act.put, List.setIfInBounds_toArray, List.set_cons_zero, List.set_cons_succ]))
          refine scall rfl rfl (fun K hK => ?_)
          go_simp
          refine (rsameC_any P P' p pc p' pc' r lc kc r lc kc zs zs _ (HI8.out.next B10) (HJ8.out.next B10) (by omega)).mono ?_; rintro e w11 ⟨rfl, b11⟩; rw [sameC_self]
          go_wp2_with fail
          refine hK.out _ _ (by exact b11) ?_
          clear hK K
          try simp only [Act.put, List.setIfInBounds_toArray, List.set_cons_zero, List.set_cons_succ]
          replace qx := fun (W : World) (hW : Grow w11 W) => qx W (Grow.trans (b11) hW)
          replace qy := fun (W : World) (hW : Grow w11 W) => qy W (Grow.trans (b11) hW)
          replace qp := fun (W : World) (hW : Grow w11 W) => qp W (Grow.trans (b11) hW)
          replace qq := fun (W : World) (hW : Grow w11 W) => qq W (Grow.trans (b11) hW)
          have B11 := bthen B10 b11
          repeat (first | (refine sreadx rfl rfl ?_; apply Exists.intro; apply And.intro; (· (intro W hW; first | (go_simp; done) | (go_simp; with_reducible rfl) | (go_simp; rw [if_neg (by omega)]; done) | (go_simp; rw [if_neg (by omega)]; with_reducible rfl))); simp only [Act.put, List.setIfInBounds_toArray, List.set_cons_zero, List.set_cons_succ]) | (refine sskip rfl rfl ?_; simp only [Act.put, List.setIfInBounds_toArray, List.set_cons_zero, List.set_cons_succ]))
          refine scall rfl rfl (fun K hK => ?_)
          go_simp
          refine (csame_any A A' n c n' c' x.r x.l x.k y.r y.l y.k x.ins y.ins _ (HX.out.next (HT8.out.next B11).be) (HY.out.next (HT8.out.next B11).be) (by omega)).mono ?_; rintro e w12 ⟨rfl, b12⟩
          go_wp2_with fail
          refine hK.out _ _ (by exact b12) ?_
          clear hK K
          try simp only [Act.put, List.setIfInBounds_toArray, List.set_cons_zero, List.set_cons_succ]
          replace qx := fun (W : World) (hW : Grow w12 W) => qx W (Grow.trans (b12) hW)
          replace qy := fun (W : World) (hW : Grow w12 W) => qy W (Grow.trans (b12) hW)
          replace qp := fun (W : World) (hW : Grow w12 W) => qp W (Grow.trans (b12) hW)
          replace qq := fun (W : World) (hW : Grow w12 W) => qq W (Grow.trans (b12) hW)
          have B12 := bthen B11 b12
          repeat (first | (refine sreadx rfl rfl ?_; apply Exists.intro; apply And.intro; (· (intro W hW; first | (go_simp; done) | (go_simp; with_reducible rfl) | (go_simp; rw [if_neg (by omega)]; done) | (go_simp; rw [if_neg (by omega)]; with_reducible rfl))); simp only [Act.put, List.setIfInBounds_toArray, List.set_cons_zero, List.set_cons_succ]) | (refine sskip rfl rfl ?_; simp only [Act.put, List.setIfInBounds_toArray, List.set_cons_zero, List.set_cons_succ]))
          refine scall rfl rfl (fun K hK => ?_)
          go_simp
          refine (rsameC_any A A' n c n' c' x.r x.l x.k y.r y.l y.k x.ins y.ins _ (HX.out.next (HT8.out.next B12).be) (HY.out.next (HT8.out.next B12).be) (by omega)).mono ?_; rintro e w13 ⟨rfl, b13⟩
          go_wp2_with fail
          refine hK.out _ _ (by exact b13) ?_
          clear hK K
          try simp only [Act.put, List.setIfInBounds_toArray, List.set_cons_zero, List.set_cons_succ]
          replace qx := fun (W : World) (hW : Grow w13 W) => qx W (Grow.trans (b13) hW)
          replace qy := fun (W : World) (hW : Grow w13 W) => qy W (Grow.trans (b13) hW)
          replace qp := fun (W : World) (hW : Grow w13 W) => qp W (Grow.trans (b13) hW)
          replace qq := fun (W : World) (hW : Grow w13 W) => qq W (Grow.trans (b13) hW)
          have B13 := bthen B12 b13
          generalize sameC ⟨x.r, x.l, x.k, x.ins⟩ ⟨y.r, y.l, y.k, y.ins⟩ = sb
          have hsb : (sb == sb) = true := by cases sb <;> rfl
          repeat (first | (refine sreadx rfl rfl ?_; apply Exists.intro; apply And.intro; (· (intro W hW; first | (go_simp; done) | (go_simp; with_reducible rfl) | (go_simp; rw [if_neg (by omega)]; done) | (go_simp; rw [if_neg (by omega)]; with_reducible rfl))); simp only [Act.put, List.setIfInBounds_toArray, List.set_cons_zero, List.set_cons_succ]) | (refine sskip rfl rfl ?_; simp only [Act.put, List.setIfInBounds_toArray, List.set_cons_zero, List.set_cons_succ]))
          refine scall rfl rfl (fun K hK => ?_)
          go_simp
          refine (csame_any A A n c n c x.r x.l x.k x.r x.l x.k x.ins x.ins _ (HX.out.next (HT8.out.next B13).be) (HX.out.next (HT8.out.next B13).be) (by omega)).mono ?_; rintro e w14 ⟨rfl, b14⟩; rw [sameC_self]
          go_wp2_with fail
          refine hK.out _ _ (by exact b14) ?_
          clear hK K
          try simp only [Act.put, List.setIfInBounds_toArray, List.set_cons_zero, List.set_cons_succ]
          replace qx := fun (W : World) (hW : Grow w14 W) => qx W (Grow.trans (b14) hW)
          replace qy := fun (W : World) (hW : Grow w14 W) => qy W (Grow.trans (b14) hW)
          replace qp := fun (W : World) (hW : Grow w14 W) => qp W (Grow.trans (b14) hW)
          replace qq := fun (W : World) (hW : Grow w14 W) => qq W (Grow.trans (b14) hW)
          have B14 := bthen B13 b14
          repeat (first | (refine sreadx rfl rfl ?_; apply Exists.intro; apply And.intro; (· (intro W hW; first | (go_simp; done) | (go_simp; with_reducible rfl) | (go_simp; rw [if_neg (by omega)]; done) | (go_simp; rw [if_neg (by omega)]; with_reducible rfl))); simp only [Act.put, List.setIfInBounds_toArray, List.set_cons_zero, List.set_cons_succ]) | (refine sskip rfl rfl ?_; simp only [Act.put, List.setIfInBounds_toArray, List.set_cons_zero, List.set_cons_succ]))
          refine scall rfl rfl (fun K hK => ?_)
          go_simp
          refine (clives_any _).mono ?_; rintro e w15 ⟨rfl, b15⟩
          go_wp2_with fail
          refine hK.out _ _ (by exact b15) ?_
          clear hK K
          try simp only [Act.put, List.setIfInBounds_toArray, List.set_cons_zero, List.set_cons_succ]
          replace qx := fun (W : World) (hW : Grow w15 W) => qx W (Grow.trans (b15) hW)
          replace qy := fun (W : World) (hW : Grow w15 W) => qy W (Grow.trans (b15) hW)
          replace qp := fun (W : World) (hW : Grow w15 W) => qp W (Grow.trans (b15) hW)
          replace qq := fun (W : World) (hW : Grow w15 W) => qq W (Grow.trans (b15) hW)
          have B15 := bthen B14 b15
          repeat (first | (refine sreadx rfl rfl ?_; apply Exists.intro; apply And.intro; (· (intro W hW; first | (go_simp; done) | (go_simp; with_reducible rfl) | (go_simp; rw [if_neg (by omega)]; done) | (go_simp; rw [if_neg (by omega)]; with_reducible rfl))); simp only [Act.put, List.setIfInBounds_toArray, List.set_cons_zero, List.set_cons_succ]) | (refine sskip rfl rfl ?_; simp only [Act.put, List.setIfInBounds_toArray, List.set_cons_zero, List.set_cons_succ]))
          refine sdone ?_
          go_wp2_with fail
          go_ret
          exact ⟨rfl, (HT8.out.next B15).be⟩
end Go.Proofs.YtpodniljpinigaaDoor.codeTexts
