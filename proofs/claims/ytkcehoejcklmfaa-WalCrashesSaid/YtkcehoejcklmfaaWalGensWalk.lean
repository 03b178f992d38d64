/- WalGens' walk. -/
import Derived.Test.YtkcehoejcklmfaaWalOpen
import Derived.Test.YtkcehoejcklmfaaWalRef3
import Derived.Test.YtkcehoejcklmfaaWalJoinPlain
namespace Go.Proofs.Ytkcehoejcklmfaa.L
open Go.RowKit O D K
def RdL (w : World) (g lg : Nat) (r : Option Nat) (A : Option Addr) (n : Nat) (l : List UInt8) : Prop := Rd w w.heap.size 1 A n (bv l) ∧ (0 < n → ∀ b, blkOf A = some b → b ≠ g ∧ b ≠ lg ∧ r ≠ some b)
theorem RdL.only {w w' : World} {g lg : Nat} {r : Option Nat} {A : Option Addr} {n : Nat} {l : List UInt8} (h : RdL w g lg r A n l) (ho : OnlyL g lg r w w') : RdL w' g lg r A n l := by
  refine ⟨⟨h.1.1, fun hp => ?_⟩, h.2⟩
  have hl : l.length = n := by have := h.1.1; simp at this; omega
  obtain ⟨b, off, e, hlt, hc⟩ := h.1.2 hp
  obtain ⟨h1, h2, h3⟩ := h.2 (by simp at hp; omega) b (by rw [e]; rfl)
  exact ⟨b, off, e, Nat.lt_of_lt_of_le hlt ho.size, fun j hj => (World.cell?_of_block (a := ⟨b, off + j, none⟩) (ho.block b hlt h1 h2 h3)).trans (hc j hj)⟩
theorem RdL.turned {w w' : World} {g lg : Nat} {r r' : Option Nat} {A : Option Addr} {n : Nat} {l : List UInt8} (h : RdL w g lg r A n l) (ho : OnlyL g lg r w w') (hn : NxR r r' w) : RdL w' g lg r' A n l := by
  refine ⟨(h.only ho).1, fun h0 b hb => ?_⟩
  obtain ⟨h1, h2, h3⟩ := h.2 h0 b hb
  refine ⟨h1, h2, ?_⟩
  have hl : l.length = n := by have := h.1.1; simp at this; omega
  obtain ⟨q, off, e, hlt, -⟩ := h.1.2 (by simp; omega)
  rw [e] at hb
  have hq : q = b := by simpa [blkOf] using hb
  rcases hn with rfl | rfl | ⟨k, rfl, hk⟩
  · exact h3
  · simp
  · intro e; injection e with e; omega
theorem RdL.fresh {w w1 : World} {g lg : Nat} {r : Option Nat} {A : Option Addr} {n c : Nat} {l : List UInt8} (h : w1.ownsRow w.heap.size 5 1 (.slice A n c) n (bv l)) (hg : g < w.heap.size) (hl : lg < w.heap.size) (hr : ∀ k, r = some k → k < w.heap.size) : RdL w1 g lg r A n l := by
  refine ⟨Rd.of_own h, fun _ b hb => ?_⟩
  have := (h.lt b (by rw [own_blk]; exact hb)).1
  exact ⟨by omega, by omega, fun e => by have := hr b e; omega⟩
end Go.Proofs.Ytkcehoejcklmfaa.L
namespace Go.Proofs.Ytkcehoejcklmfaa.walGens
open Go.RowKit O D K L

theorem frame_le {g : Nat} {b : List UInt8} (h : b.length ≤ 300) : (frameL g b).length ≤ 320 := by
  have h10 := uintL_len10 b.length (by omega)
  rw [frameL_len, textL_len]
  omega
theorem image_nil : imageOf [] = none := by
  cases h : imageOf [] with
  | none => rfl
  | some q =>
    exfalso
    unfold imageOf at h
    split at h
    · cases h
    · rename_i g s k hf
      have := (frameAt_some (l := []) (i := 0) (by simp)).1 hf
      have h8 := frameL_pos g s
      have h9 := this.2.1
      simp at h9
      omega
theorem image_frame {g : Nat} {s : List UInt8} (hg : g < 4294967296) (hl : (frameL g s).length < 1000000000) : imageOf (frameL g s) = some (g, s) := by
  have := frame_here (L := frameL g s) (pre := []) (rest := []) (g := g) (s := s) (by simp) hg hl
  unfold imageOf
  rw [show ((([] : List UInt8).length : Nat) : Int) = ((0 : Nat) : Int) from rfl] at this
  rw [this]
  simp
theorem start0 : openS (newS 4096) = ⟨newS 4096, 0, 0⟩ := by
  have hn : newTo (newS 4096) 2 = none := by simp [newTo, slotN, newS, image_nil, newer]
  have hs : (newS 4096).sync = newS 4096 := by simp [newS, St.sync, St.log]
  have hl : (newS 4096).log = [] := by simp [newS, St.log]
  unfold openS openD genS
  rw [hn, hl]
  simp [hs, optG]
def S1 (b : List UInt8) : St := ⟨4096, [], frameL 0 b, [], [], [], []⟩
def S2 (im : List UInt8) : St := ⟨4096, [], [], [], frameL 1 im, [], frameL 1 im⟩
def S3 (im c : List UInt8) : St := ⟨4096, [], frameL 1 c, [], frameL 1 im, [], frameL 1 im⟩
def S4 (im b c : List UInt8) : St := ⟨4096, [], frameL 1 c ++ frameL 0 b, [], frameL 1 im, [], frameL 1 im⟩
def S5 (im b c : List UInt8) : St := ⟨4096, frameL 1 c ++ frameL 0 b, [], [], frameL 1 im, [], frameL 1 im⟩
def S6 (im c : List UInt8) : St := ⟨4096, frameL 1 c, [], [], frameL 1 im, [], frameL 1 im⟩
theorem step1 {b : List UInt8} (h : b.length ≤ 300) : LS.add ⟨newS 4096, 0, 0⟩ b = (⟨S1 b, 0, 0⟩, 0) := by
  have := frame_le (g := 0) h
  have e : (newS 4096).app (frameL 0 b) = (S1 b, 0) := by rw [app_fits (by simp [newS, St.log]; omega)]; simp [newS, S1]; decide
  unfold LS.add
  rw [if_neg (by simp [LS.free, newS, St.log]; omega)]
  simp [e]
theorem step2 {im b : List UInt8} (h : im.length ≤ 300) : LS.check ⟨S1 b, 0, 0⟩ im = (⟨S2 im, 1, 0⟩, 0) := by
  unfold LS.check
  rw [if_neg (by omega), if_neg (by simp)]
  simp [S1, S2, St.write, St.sync, St.clear, St.log]
theorem step3 {im c : List UInt8} (h : c.length ≤ 300) : LS.add ⟨S2 im, 1, 0⟩ c = (⟨S3 im c, 1, 0⟩, 0) := by
  have := frame_le (g := 1) h
  have e : (S2 im).app (frameL 1 c) = (S3 im c, 0) := by rw [app_fits (by simp [S2, St.log]; omega)]; simp [S2, S3]
  unfold LS.add
  rw [if_neg (by simp [LS.free, S2, St.log]; omega)]
  simp [e]
theorem step4 {im b c : List UInt8} (hb : b.length ≤ 300) (h : c.length ≤ 300) : (S3 im c).app (frameL 0 b) = (S4 im b c, 0) := by
  have := frame_le (g := 1) h
  have := frame_le (g := 0) hb
  rw [app_fits (by simp [S3, St.log]; omega)]
  simp [S3, S4]
theorem step5 {im b c : List UInt8} : (S4 im b c).sync = S5 im b c := by simp [S4, S5, St.sync, St.log]
theorem newest5 {im b c : List UInt8} (hi : im.length ≤ 300) : newTo (S5 im b c) 2 = some (1, im) := by
  have := frame_le (g := 1) hi
  have e := image_frame (g := 1) (s := im) (by omega) (by omega)
  simp [newTo, slotN, S5, image_nil, newer, e]
theorem scan5 {im b c : List UInt8} (hi : im.length ≤ 300) (hb : b.length ≤ 300) (h : c.length ≤ 300) : scanS (S5 im b c) = ([c], (frameL 1 c).length) := by
  have := frame_le (g := 1) h
  have := frame_le (g := 0) hb
  have hc : catF 1 [c] = frameL 1 c := by simp [catF]
  have e := scan_torn 1 0 (by omega) (by omega) (by omega) [c] b (by rw [hc]; simp; omega)
  rw [hc] at e
  have hl : (S5 im b c).log = frameL 1 c ++ frameL 0 b := by simp [S5, St.log]
  unfold scanS genS
  rw [newest5 hi, hl]
  exact e
theorem open5 {im b c : List UInt8} (hi : im.length ≤ 300) (hb : b.length ≤ 300) (h : c.length ≤ 300) : openS (S5 im b c) = ⟨S6 im c, 1, 0⟩ := by
  have h1 := frame_le (g := 1) h
  have h2 := frame_le (g := 0) hb
  have h8 := frameL_pos 0 b
  have hl : (S5 im b c).log = frameL 1 c ++ frameL 0 b := by simp [S5, St.log]
  have e : (S5 im b c).clear.app (frameL 1 c) = (⟨4096, [], frameL 1 c, [], frameL 1 im, [], frameL 1 im⟩, 0) := by rw [app_fits (by simp [S5, St.clear, St.log]; omega)]; simp [S5, St.clear]
  unfold openS openD genS
  rw [scan5 hi hb h, newest5 hi, hl, if_pos (by simp; omega)]
  simp only [List.take_left', e, optG]
  simp [St.sync, St.log, S6]

set_option maxRecDepth 100000 in
set_option maxHeartbeats 8000000 in
theorem walk (A : Option Addr) (n c : Nat) (l : List UInt8) (A2 : Option Addr) (n2 c2 : Nat) (l2 : List UInt8) (A3 : Option Addr) (n3 c3 : Nat) (l3 : List UInt8) (w : World) (h1 : IsB w A n c l) (h2 : IsB w A2 n2 c2 l2) (h3 : IsB w A3 n3 c3 l3) :
    Calls Try.prog 11 #[.slice A n c, .slice A2 n2 c2, .slice A3 n3 c3] w fun e w' => e = .returned (.bool true) ∧ Below w.heap.size w w' := by
  have Hh1 := Lib.hid h1; clear h1
  have Hh2 := Lib.hid h2; clear h2
  have Hh3 := Lib.hid h3; clear h3
  go_enter Try.func11, Try.ntmps11
  go_wp2_with fail
  refine (L.cut_any A n c l w Hh1.out).mono ?_; rintro e w1 ⟨x, rfl, hx300, hxc, hx, rfl⟩
  go_wp2_with fail
  refine (L.cut_any A2 n2 c2 l2 w Hh2.out).mono ?_; rintro e w1 ⟨y, rfl, hy300, hyc, hy, rfl⟩
  go_wp2_with fail
  refine (L.cut_any A3 n3 c3 l3 w Hh3.out).mono ?_; rintro e w1 ⟨z, rfl, hz300, hzc, hz, rfl⟩
  generalize l.take 300 = im at hx
  generalize l2.take 300 = b at hy
  generalize l3.take 300 = cc at hz
  have lx : im.length = x := by have := hx.1; simp at this; omega
  have ly : b.length = y := by have := hy.1; simp at this; omega
  have lz : cc.length = z := by have := hz.1; simp at this; omega
  have E1 := Lib.hid (step1 (b := b) (by omega))
  have E2 := Lib.hid (step2 (im := im) (b := b) (by omega))
  have E3 := Lib.hid (step3 (im := im) (c := cc) (by omega))
  have E4 := Lib.hid (step4 (im := im) (b := b) (c := cc) (by omega) (by omega))
  have E6 := Lib.hid (open5 (im := im) (b := b) (c := cc) (by omega) (by omega) (by omega))
  have E7 := Lib.hid (newest5 (im := im) (b := b) (c := cc) (by omega))
  have E8 := Lib.hid (scan5 (im := im) (b := b) (c := cc) (by omega) (by omega) (by omega))
  have fi := frame_le (g := 1) (b := im) (by omega)
  have fb := frame_le (g := 0) (b := b) (by omega)
  have fc := frame_le (g := 1) (b := cc) (by omega)
  have hcost := costN_len cc 1 (by omega)
  rw [lz] at hcost
  have Hhx := Lib.hid hx; clear hx
  have Hhy := Lib.hid hy; clear hy
  have Hhz := Lib.hid hz; clear hz
  have Hlx := Lib.hid lx; clear lx
  have Hly := Lib.hid ly; clear ly
  have Hlz := Lib.hid lz; clear lz
  have Hhcost := Lib.hid hcost; clear hcost
  have Hfi := Lib.hid fi; clear fi
  have Hfb := Lib.hid fb; clear fb
  go_wp2_with fail
  refine (new_any 4096 w).mono ?_; rintro e w1 ⟨rfl, b1, d1⟩
  have hs1 := b1.size
  have Hb1 := Lib.hid b1; clear b1
  have Hd1 := Lib.hid d1; clear d1
  go_wp2_with fail
  refine (lopen_any Hd1.out (by simp [newS]) (by simp [newS]) hs1).mono ?_; rintro e w2 ⟨A5, n5, c5, A6, n6, c6, xs6, rfl, -, -, -, -, o2, r2, L2, nx2⟩
  rw [start0] at L2
  have B2 : Below w.heap.size w w2 := Hb1.out.trans (o2.below (Nat.le_refl _) (by simp) hs1)
  have hs2 := B2.size
  have hy2 := (Hhy.out.below B2).more hs2
  have hlg2 := lt_of_block L2.blk
  have hdl := L2.disk.lt
  have Ho2 := Lib.hid o2; clear o2
  have Hnx2 := Lib.hid nx2; clear nx2
  have HL2 := Lib.hid L2; clear L2
  have HB2 := Lib.hid B2; clear B2
  have Hhy2 := Lib.hid hy2; clear hy2
  go_wp2_with fail
  refine (lgen_any HL2.out).mono ?_; rintro e w2' ⟨rfl, rfl⟩
  go_wp2_with fail
  refine (frame_any A2 y c2 0 b _ Hhy2.out (by omega) (by omega)).mono ?_; rintro e w3 ⟨A7, n7, c7, rfl, o7, b3⟩
  have L3 := HL2.out.below b3
  have X3 : RdL w3 w.heap.size w1.heap.size r2 A7 n7 (frameL 0 b) := RdL.fresh o7 hdl.2.1 hlg2 (fun k hk => (hdl.2.2 k hk).2)
  have h7 := own_len o7
  have B3 : Below w.heap.size w w3 := HB2.out.trans (b3.mono hs2)
  have hs3 := B3.size
  have hy3 := (Hhy.out.below B3).more hs3
  have h7' : n7 ≤ 320 := by have := Hfb.out; omega
  have Ho7 := Lib.hid o7; clear o7
  have Hb3 := Lib.hid b3; clear b3
  have HL3 := Lib.hid L3; clear L3
  have HX3 := Lib.hid X3; clear X3
  have Hh7 := Lib.hid h7; clear h7
  have HB3 := Lib.hid B3; clear B3
  have Hhy3 := Lib.hid hy3; clear hy3
  go_wp2_with fail
  refine (ladd_any A2 y c2 b HL3.out Hhy3.out (by omega) hs3).mono ?_; rintro e w4 ⟨rfl, t4⟩
  rw [E1.out] at t4 ⊢
  obtain ⟨o4, r4, L4, n4⟩ := t4
  have B4 : Below w.heap.size w w4 := by
    have := HL3.out.disk.lt
    exact HB3.out.trans (o4.below this.1 HL3.out.lgb (fun k hk => (this.2.2 k hk).1) hs3)
  have X4 := HX3.out.turned o4 n4
  have hs4 := B4.size
  have hx4 := (Hhx.out.below B4).more hs4
  have Ho4 := Lib.hid o4; clear o4
  have Hn4 := Lib.hid n4; clear n4
  have HL4 := Lib.hid L4; clear L4
  have HB4 := Lib.hid B4; clear B4
  have HX4 := Lib.hid X4; clear X4
  have Hhx4 := Lib.hid hx4; clear hx4
  go_wp2_with fail
  refine (lcheck_any A x c im HL4.out Hhx4.out (by omega) hs4).mono ?_; rintro e w5 ⟨rfl, t5⟩
  rw [E2.out] at t5 ⊢
  obtain ⟨o5, r5, L5, n5⟩ := t5
  have B5 : Below w.heap.size w w5 := by
    have := HL4.out.disk.lt
    exact HB4.out.trans (o5.below this.1 HL4.out.lgb (fun k hk => (this.2.2 k hk).1) hs4)
  have X5 := HX4.out.turned o5 n5
  have hs5 := B5.size
  have hz5 := (Hhz.out.below B5).more hs5
  have Ho5 := Lib.hid o5; clear o5
  have Hn5 := Lib.hid n5; clear n5
  have HL5 := Lib.hid L5; clear L5
  have HB5 := Lib.hid B5; clear B5
  have HX5 := Lib.hid X5; clear X5
  have Hhz5 := Lib.hid hz5; clear hz5
  go_wp2_with fail
  refine (ladd_any A3 z c3 cc HL5.out Hhz5.out (by omega) hs5).mono ?_; rintro e w6 ⟨rfl, t6⟩
  rw [E3.out] at t6 ⊢
  obtain ⟨o6, r6, L6, n6'⟩ := t6
  have B6 : Below w.heap.size w w6 := by
    have := HL5.out.disk.lt
    exact HB5.out.trans (o6.below this.1 HL5.out.lgb (fun k hk => (this.2.2 k hk).1) hs5)
  have X6 := HX5.out.turned o6 n6'
  have hs6 := B6.size
  have Ho6 := Lib.hid o6; clear o6
  have Hn6' := Lib.hid n6'; clear n6'
  have HL6 := Lib.hid L6; clear L6
  have HB6 := Lib.hid B6; clear B6
  have HX6 := Lib.hid X6; clear X6
  go_wp2_with fail
  refine (append_any HL6.out.disk A7 n7 c7 (frameL 0 b) HX6.out.1 hs6 (by omega)).mono ?_; rintro e w7 ⟨rfl, t7⟩
  rw [show (S3 im cc).app (frameL 0 b) = (S4 im b cc, 0) from E4.out] at t7 ⊢
  obtain ⟨o7', r7, d7, -⟩ := t7
  have B7 : Below w.heap.size w w7 := by
    have := HL6.out.disk.lt
    exact HB6.out.trans (o7'.below this.1 (fun k hk => (this.2.2 k hk).1) hs6)
  have hs7 := B7.size
  have Ho7' := Lib.hid o7'; clear o7'
  have Hd7 := Lib.hid d7; clear d7
  have HB7 := Lib.hid B7; clear B7
  go_wp2_with fail
  refine (syncN_any Hd7.out).mono ?_; rintro e w8 ⟨rfl, o8, d8⟩
  rw [step5] at d8
  have B8 : Below w.heap.size w w8 := HB7.out.trans (o8.below (Nat.le_refl _) (by simp) hs7)
  have hs8 := B8.size
  have Ho8 := Lib.hid o8; clear o8
  have Hd8 := Lib.hid d8; clear d8
  have HB8 := Lib.hid B8; clear B8
  go_wp2_with fail
  refine (lopen_any Hd8.out (by simp [S5]) (by have := Hfi.out; simp [S5]; omega) hs8).mono ?_; rintro e w9 ⟨A9, n9, c9, A10, n10, c10, xs, rfl, i9, hc9, own10, rep10, o9, r9, L9, -⟩
  rw [E6.out] at L9
  rw [E7.out] at i9
  rw [E8.out] at rep10
  have B9 : Below w.heap.size w w9 := HB8.out.trans (o9.below (Nat.le_refl _) (by simp) hs8)
  have hs9 := B9.size
  have hx9 := (Hhx.out.below B9).more hs9
  have hz9 := (Hhz.out.below B9).more hs9
  have i9' : Rd w9 w9.heap.size 1 A9 n9 (bv im) := i9
  have q1 := O.strq (c := c9) i9'
  have q2 := O.strq (c := c) hx9
  have q3 := O.strq (c := c3) hz9
  have hl10 : n10 = 1 := by have := (Rd.of_own own10).len_of SlU.size rep10 (by omega); simpa using this.symm
  have Hi9 := Lib.hid i9; clear i9
  have Hown10 := Lib.hid own10; clear own10
  have Hrep10 := Lib.hid rep10; clear rep10
  have Ho9 := Lib.hid o9; clear o9
  have HL9 := Lib.hid L9; clear L9
  have HB9 := Lib.hid B9; clear B9
  have Hhx9 := Lib.hid hx9; clear hx9
  have Hhz9 := Lib.hid hz9; clear hz9
  have Hi9' := Lib.hid i9'; clear i9'
  have Hhl10 := Lib.hid hl10; clear hl10
  go_wp2_with fail
  have ba : Below w9.heap.size w9 (w9.alloc (.cells #[.string ⟨cc.toArray⟩] 9)) := (Below.refl _ _).alloc (Nat.le_refl _) _
  have hlit := Rd.of_own (own_lit w9 (base := w9.heap.size) (e := 9) [strV cc] (Nat.le_refl _) (by simp [maxLen]))
  have B10 : Below w.heap.size w (w9.alloc (.cells #[.string ⟨cc.toArray⟩] 9)) := HB9.out.trans (ba.mono hs9)
  have L10 := HL9.out.below ba
  clear q1 q2 q3
  refine (rsame_any A10 n10 c10 (some ⟨w9.heap.size, 0, none⟩) 1 1 [cc] xs _ ((Rd.of_own Hown10.out).next ba) (Hrep10.out.imp (SlU.keep (KeepU.of_below ba))) hlit (by have := Hhl10.out; omega)).mono ?_; rintro e w11 ⟨rfl, b11⟩
  have L11 := L10.below b11
  have B11 : Below w.heap.size w w11 := B10.trans (b11.mono B10.size)
  clear hlit L10 ba B10 b11
  have HL11 := Lib.hid L11; clear L11
  have HB11 := Lib.hid B11; clear B11
  go_wp2_with fail
  refine (lgen_any HL11.out).mono ?_; rintro e w12 ⟨rfl, rfl⟩
  go_wp2_with fail
  refine (log_any HL11.out.disk).mono ?_; rintro e w13 ⟨A13, n13, c13, rfl, o13, b13⟩
  have hn13 : (frameL 1 cc).length = n13 := by have := own_len o13; simpa [S6, St.log] using this
  have hcz : (costN (z : Int) : Int) = (n13 : Int) := by have := Hhcost.out; omega
  have B13 : Below w.heap.size w w13 := HB11.out.trans (b13.mono HB11.out.size)
  clear o13 b13
  have Hhn13 := Lib.hid hn13; clear hn13
  have Hhcz := Lib.hid hcz; clear hcz
  have HB13 := Lib.hid B13; clear B13
  go_wp2_with fail
  refine (cost_any (z : Int) _).mono ?_; rintro e w14 ⟨rfl, rfl⟩
  rw [Hhcz.out]
  go_wp2_with fail
  refine (L.lives_any _).mono ?_; rintro e w15 ⟨rfl, b15⟩
  have B15 : Below w.heap.size w w15 := HB13.out.trans (b15.mono HB13.out.size)
  clear b15
  have HB15 := Lib.hid B15; clear B15
  go_wp2_with fail
  go_ret
  exact ⟨rfl, HB15.out⟩
end Go.Proofs.Ytkcehoejcklmfaa.walGens
