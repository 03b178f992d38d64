/- WalPlays' walk. -/
import Derived.Test.YtkcehoejcklmfaaWalDo7
import Derived.Test.YtkcehoejcklmfaaWalOps
namespace Go.Proofs.Ytkcehoejcklmfaa.L
open Go.RowKit O D K

abbrev put7 (W : World) (b : Nat) (x : LS) (A : Option Addr) (c : Nat) (A' : Option Addr) (c' : Nat) : World := (((((((W.setCell ⟨b, 0, none⟩ (.int .i64 (x.s.room : Int))).setCell ⟨b, 1, none⟩ (str x.s.sure)).setCell ⟨b, 2, none⟩ (str x.s.rest)).setCell ⟨b, 3, none⟩ (.slice A 2 c)).setCell ⟨b, 4, none⟩ (.slice A' 2 c')).setCell ⟨b, 5, none⟩ (.int .u32 (x.gen : Int))).setCell ⟨b, 6, none⟩ (.int .i64 (x.kept : Int)))
/-- The loop's head: the log, the reference's log in the box bx, the things to do. -/
structure LoopP (w0 : World) (base g lg bx : Nat) (r : Option Nat) (A : Option Addr) (n : Nat) (xs : List Value) (x : LS) (w : World) : Prop where
  bel : Below base w0 w
  le : base ≤ w.heap.size
  log : LogAt w base g lg r x
  box : ∃ Z c Z' c', w.heap[bx]? = some (.cells (lc x Z c Z' c') 82 (0, 0)) ∧ LRefAt w g r (.agg (lc x Z c Z' c')) x
  bxg : bx ≠ g
  bxl : bx ≠ lg
  bxr : r ≠ some bx
  bxb : base ≤ bx
  row : Rd w w.heap.size 3 A n xs
  ap : 0 < xs.length → ∀ b, blkOf A = some b → b ≠ g ∧ b ≠ lg ∧ r ≠ some b ∧ b ≠ bx
theorem LoopP.turn {w0 w w1 w2 w4 : World} {base g lg lg2 bx n : Nat} {r r2 : Option Nat} {A : Option Addr} {xs : List Value} {x x2 : LS} {Z2 Z2' : Option Addr} {c2 c2' : Nat} (h : LoopP w0 base g lg bx r A n xs x w) (b1 : Below w.heap.size w w1) (o : OnlyL g lg r w1 w2)
    (l2 : LogAt w2 base g lg2 r2 x2) (hl2 : lg2 = lg ∨ w1.heap.size ≤ lg2) (n2 : NxR r r2 w1) (b3 : Below w2.heap.size w2 w4) (hv : LRefAt w2 g r2 (.agg (lc x2 Z2 c2 Z2' c2')) x2) : LoopP w0 base g lg2 bx r2 A n xs x2 (put7 w4 bx x2 Z2 c2 Z2' c2') := by
  obtain ⟨Z, c, Z', c', h1, -⟩ := h.box
  have hbx := lt_of_block h1
  have s1 := b1.size
  have s2 := o.size
  have s3 := b3.size
  have hbox : Box bx 1 w4 (put7 w4 bx x2 Z2 c2 Z2' c2') :=
    (((((((Box.refl _ _ _).setCell (by omega) (by omega) _).setCell (by omega) (by omega) _).setCell (by omega) (by omega) _).setCell (by omega) (by omega) _).setCell (by omega) (by omega) _).setCell (by omega) (by omega) _).setCell (by omega) (by omega) _
  have hold : ∀ k, k < w.heap.size → k ≠ g → k ≠ lg → r ≠ some k → w4.heap[k]? = w.heap[k]? := fun k hk a b c => (b3.block k (by omega)).trans ((o.block k (by omega) a b c).trans (b1.block k hk))
  have q4 := (hold bx hbx h.bxg h.bxl h.bxr).trans h1
  have hN : ∀ k, bx ≤ k → k < bx + 1 → NoB w4 k := fun k hk1 hk2 => by
    obtain rfl : k = bx := by omega
    exact ⟨_, _, q4, by simp [noU8], by decide⟩
  have hr2 : ∀ k, r2 = some k → k ≠ bx := by
    intro k hk
    rcases n2 with e | e | ⟨q, e, hq⟩
    · rintro rfl; exact h.bxr (by rw [← e]; exact hk)
    · rw [e] at hk; cases hk
    · rw [e] at hk; injection hk with hk; omega
  have hlg2 : lg2 ≠ bx := by
    rcases hl2 with e | e
    · rw [e]; exact fun e => h.bxl e.symm
    · omega
  have hd : ∀ k, k ≠ bx → k < bx ∨ bx + 1 ≤ k := fun k hk => by omega
  have hlt := h.log.disk.lt
  have l4 := l2.below b3
  refine ⟨?_, ?_, ⟨l4.disk.box hbox hN (hd _ (fun e => h.bxg e.symm)) (fun k hk => hd _ (hr2 k hk)), (hbox.block lg2 (hd _ hlg2)).trans l4.blk, l4.lgg, l4.lgr, l4.lgb, l4.ok⟩, ⟨Z2, c2, Z2', c2', heap_set7 q4 rfl _ _ _ _ _ _ _, (hv.below b3).box hbox hN⟩, h.bxg, fun e => hlg2 e.symm, fun e => hr2 _ e rfl, h.bxb, ?_, ?_⟩
  · have e1 := (h.bel.trans (b1.mono h.le)).trans (o.below hlt.1 h.log.lgb (fun k hk => (hlt.2.2 k hk).1) (Nat.le_trans h.le s1))
    exact Box.below (e1.trans (b3.mono (Nat.le_trans h.le (by omega)))) hbox h.bxb
  · rw [hbox.size]; have := h.le; omega
  · refine ⟨h.row.1, fun hp => ?_⟩
    obtain ⟨b, off, e, hb, hc⟩ := h.row.2 hp
    obtain ⟨a1, a2, a3, a4⟩ := h.ap hp b (by rw [e]; rfl)
    refine ⟨b, off, e, by rw [hbox.size]; omega, fun j hj => ?_⟩
    exact (World.cell?_of_block (a := ⟨b, off + j, none⟩) ((hbox.block b (hd _ a4)).trans (hold b hb a1 a2 a3))).trans (hc j hj)
  · intro hp b hb
    obtain ⟨q, off, e, hlt2, -⟩ := h.row.2 hp
    obtain ⟨a1, a2, a3, a4⟩ := h.ap hp b hb
    have hbl : b < w.heap.size := by
      rw [e] at hb
      have : q = b := by simpa [blkOf] using hb
      omega
    refine ⟨a1, ?_, ?_, a4⟩
    · rcases hl2 with e | e
      · rw [e]; exact a2
      · omega
    · rcases n2 with e | e | ⟨q, e, hq⟩
      · rw [e]; exact a3
      · rw [e]; simp
      · rw [e]; intro e2; injection e2 with e2; omega
theorem LoopP.drew {w0 w : World} {base g lg bx n : Nat} {r : Option Nat} {A : Option Addr} {xs : List Value} {x : LS} (h : LoopP w0 base g lg bx r A n xs x w) : LoopP w0 base g lg bx r A n xs x w.drew := by
  have b := (Below.refl w.heap.size w).drew
  obtain ⟨Z, c, Z', c', h1, h2⟩ := h.box
  exact ⟨h.bel.drew, h.le, h.log.below b, ⟨Z, c, Z', c', h1, h2.below b⟩, h.bxg, h.bxl, h.bxr, h.bxb, h.row.next b, h.ap⟩
def LS.steps (x : LS) (l : List D.Op) : LS := l.foldl LS.step x
theorem stepsL_snoc (x : LS) (l : List D.Op) (k : Nat) (hk : k < l.length) : x.steps (l.take (k + 1)) = (x.steps (l.take k)).step l[k] := by
  unfold LS.steps
  rw [List.take_succ_eq_append_getElem hk, List.foldl_append]
  rfl
end Go.Proofs.Ytkcehoejcklmfaa.L
namespace Go.Proofs.Ytkcehoejcklmfaa.walPlays
open Go.RowKit O D K L
set_option maxRecDepth 100000 in
set_option maxHeartbeats 8000000 in
theorem walk (room : Int) (v : Value) (ops : List D.Op) (w : World) (_hx0 : (Lit.int .i64 room).wf = true) (h1 : IsOps w w.heap.size v ops) :
    Calls Try.prog 14 #[.int .i64 room, v] w fun e w' => e = .returned (.bool true) ∧ Below w.heap.size w w' := by
  clear _hx0
  have Hh1 := Lib.hid h1; clear h1
  go_enter Try.func14, Try.ntmps14
  go_wp2_with fail
  refine (new_any room w).mono ?_; rintro e w1 ⟨rfl, b1, d1⟩
  have hs1 := b1.size
  have hsm0 := small_new room
  have hok0 := newS_ok room
  have Hb1 := Lib.hid b1; clear b1
  have Hd1 := Lib.hid d1; clear d1
  have Hhsm0 := Lib.hid hsm0; clear hsm0
  have Hhok0 := Lib.hid hok0; clear hok0
  go_wp2_with fail
  refine (lopen_any Hd1.out (by have := Hhsm0.out.1; omega) (by have := Hhsm0.out.2.1; omega) hs1).mono ?_; rintro e w2 ⟨A5, n5, c5, A6, n6, c6, xs6, rfl, -, -, -, -, o2, r2, L2, nx2⟩
  have B2 : Below w.heap.size w w2 := Hb1.out.trans (o2.below (Nat.le_refl _) (by simp) hs1)
  have hs2 := B2.size
  have hlg2 := lt_of_block L2.blk
  have hdl := L2.disk.lt
  have HL2 := Lib.hid L2; clear L2
  have HB2 := Lib.hid B2; clear B2
  clear o2 nx2
  generalize hlgn : w1.heap.size = lg0 at *
  clear hlgn
  go_wp2_with fail
  refine (rnew_any room w2 w.heap.size r2 (by have := hdl.2.1; omega) (fun k hk => (hdl.2.2 k hk).2)).mono ?_; rintro e w3 ⟨v3, rfl, y3, b3⟩
  have L3 := Lib.hid (HL2.out.below b3)
  have B3 := Lib.hid (HB2.out.trans (b3.mono hs2))
  have s3 := b3.size
  clear HL2 HB2 b3
  go_wp2_with fail
  refine (rlopen_any y3 Hhok0.out (by have := Hhsm0.out.1; omega) (by have := Hhsm0.out.2.1; omega)).mono ?_; rintro e w4 ⟨v4, A7, n7, c7, rfl, y4, -, -, b4⟩
  have L4 := Lib.hid (L3.out.below b4)
  have B4 := Lib.hid (B3.out.trans (b4.mono (by omega)))
  have s4 := b4.size
  clear L3 B3 b4 y3
  have HY4 := Lib.hid y4
  obtain ⟨Z0, z0, Z0', z0', rfl, q1, q2⟩ := y4
  clear q1 q2
  have hsm := Lib.hid (Small.openD Hhsm0.out Hhok0.out)
  generalize hx0 : openS (newS room) = x0 at *
  go_wp2_with fail
  have ba := (Below.refl w4.heap.size w4).alloc (Nat.le_refl _) (.cells (lc x0 Z0 z0 Z0' z0') 82)
  have B5 := Lib.hid (B4.out.alloc (by omega) (.cells (lc x0 Z0 z0 Z0' z0') 82))
  have X5 := Lib.hid (blk_new w4 (.cells (lc x0 Z0 z0 Z0' z0') 82))
  have L5 := Lib.hid (L4.out.below ba)
  have Y5 := Lib.hid (HY4.out.below ba)
  have hs5 : w.heap.size ≤ (w4.alloc (.cells (lc x0 Z0 z0 Z0' z0') 82)).heap.size := by simp; omega
  clear ba B4 L4 HY4
  refine (row_any v ops _ (Hh1.out.keep B5.out) hs5).mono ?_; rintro e w6 ⟨A8, n8, c8, xs, rfl, own, reps, b6⟩
  have hrl : ∀ k, r2 = some k → k < w2.heap.size := fun k hk => (hdl.2.2 k hk).2
  have L0 : LoopP w w.heap.size w.heap.size lg0 w4.heap.size r2 A8 n8 xs x0 w6 := by
    refine ⟨B5.out.trans (b6.mono hs5), Nat.le_trans hs5 b6.size, L5.out.below b6, ⟨Z0, z0, Z0', z0', blk_old b6 X5.out, Y5.out.below b6⟩, by omega, by omega, fun e => by have := hrl _ e; omega, by omega, Rd.of_own own, fun _ b hb => ?_⟩
    have := (own.lt b (by rw [own_blk]; exact hb)).1
    simp at this
    exact ⟨by omega, by omega, fun e => by have := hrl b e; omega, by omega⟩
  have hreps := reps.imp (OpC.back B5.out)
  have hln := L0.row.len_of OpC.size hreps (by omega)
  have hsmall := cutL_small ops
  have hn40 : n8 ≤ 40 := by rw [← hln]; simp [cutL]; omega
  generalize cutL ops = l' at *
  generalize hbx : w4.heap.size = bx at *
  have hsm0 : Small x0.s := by rw [← hx0]; exact hsm.out
  clear reps own b6 B5 X5 L5 Y5 hx0 hsm hbx
  subst hln
  have Hhreps := Lib.hid hreps; clear hreps
  have HL0 := Lib.hid L0; clear L0
  have Hhsmall := Lib.hid hsmall; clear hsmall
  have Hhsm0 := Lib.hid hsm0; clear hsm0
  go_wp2_with fail
  go_loopw [6, 43] (fun lv i wr => ∃ (k : Nat) (lg : Nat) (r : Option Nat), k ≤ l'.length ∧ i = .int .i64 (k : Int) ∧ lv = ptr lg ∧ Hid (Small (x0.steps (l'.take k)).s) ∧ Hid (LoopP w w.heap.size w.heap.size lg bx r A8 l'.length xs (x0.steps (l'.take k)) wr)) (fun _ i _ => l'.length - (intOf i).toNat)
  case atStart => exact ⟨0, lg0, r2, Nat.zero_le _, rfl, rfl, Hhsm0, HL0⟩
  case round =>
    obtain ⟨k, lg, r, hk, rfl, rfl, HSM, HL⟩ := hrel
    clear HL0 Hhsm0
    by_cases hlt : k < l'.length
    · obtain ⟨b', off, vs, rfl, hbl, ⟨A3, m3, c3, rfl, hr3, hm3, hc3⟩, hc⟩ := HL.out.row.elem OpC.size Hhreps.out hlt (by omega)
      have t0 := hc 0 (by omega)
      have t1 := hc 1 (by omega)
      have t2 := hc 2 (by omega)
      simp at t0 t1 t2
      have hob := Hhsmall.out _ (List.getElem_mem hlt)
      have hm3' : m3 ≤ 200 := by have := hr3.1; simp at this; omega
      have hst := stepsL_snoc x0 l' k hlt
      generalize l'[k] = o at *
      have hsm1 := Lib.hid (Small.stepL HSM.out HL.out.log.ok o (by omega))
      rw [← hst] at hsm1
      have HST := Lib.hid hst
      clear hst
      generalize x0.steps (l'.take k) = x at *
      generalize hx1 : x0.steps (l'.take (k + 1)) = x1 at *
      have ba : Below wr.heap.size wr (wr.alloc (.cells #[.int .u64 (o.kind : Int), .int .i64 o.n, .slice A3 m3 c3] 77)) := (Below.refl _ _).alloc (Nat.le_refl _) _
      obtain ⟨Z, z, Z', z', hbx1, hbx2⟩ := HL.out.box
      obtain ⟨⟨a0, a1, a2, a3, a4, a5, a6⟩, z0, z1, z2, z3, z4, z5, z6⟩ := cells7 hbx1
      have hbxs := lt_of_block hbx1
      have La := Lib.hid (HL.out.log.below ba)
      have Ya := Lib.hid (hbx2.below ba)
      have Ra := Lib.hid ((hr3.below HL.out.bel).below (ba.mono HL.out.le))
      have hle := HL.out.le
      have hlea : w.heap.size ≤ (wr.alloc (.cells #[.int .u64 (o.kind : Int), .int .i64 o.n, .slice A3 m3 c3] 77)).heap.size := by simp; omega
      have BA := Lib.hid ba
      have BX := Lib.hid hbx1
      clear ba hbx1 hbx2 hc hr3
      go_wp2_with fail
      refine (do4_any o A3 m3 c3 La.out Ya.out hlea Ra.out (by omega) HSM.out).mono ?_; rintro e w7 ⟨lg7, r7, v7, rfl, l7, y7, o7, n7, hl7⟩
      rw [← HST.out] at l7 y7
      have Y7 := Lib.hid y7
      obtain ⟨Z7, z7, Z7', z7', rfl, q1, q2⟩ := y7
      have L7 := Lib.hid l7
      have O7 := Lib.hid o7
      have N7 := Lib.hid n7
      have HL7 := Lib.hid hl7
      clear q1 q2 l7 o7 n7 hl7 a0 a1 a2 a3 a4 a5 a6 z0 z1 z2 z3 z4 z5 z6 t0 t1 t2
      go_upto_region 10 with fail
      have ba := (Below.refl w7.heap.size w7).alloc (Nat.le_refl _) (.cells (lc x1 Z7 z7 Z7' z7') 82)
      have X8 := Lib.hid (blk_new w7 (.cells (lc x1 Z7 z7 Z7' z7') 82))
      have L8 := Lib.hid (L7.out.below ba)
      have Y8 := Lib.hid (Y7.out.below ba)
      have B8 := Lib.hid ba
      clear ba
      obtain ⟨kb, hkb⟩ : ∃ kb, w7.heap.size = kb := ⟨_, rfl⟩
      obtain ⟨w8, hw8⟩ : ∃ w8, (w7.alloc (.cells (lc x1 Z7 z7 Z7' z7') 82)) = w8 := ⟨_, rfl⟩
      rw [hw8] at X8 L8 Y8 B8
      rw [hkb] at X8 ⊢
      rw [show (w7.alloc (.cells #[.int .i64 (x1.s.room : Int), .string ⟨x1.s.sure.toArray⟩, .string ⟨x1.s.rest.toArray⟩, .slice Z7 2 z7, .slice Z7' 2 z7', .int .u32 (x1.gen : Int), .int .i64 (x1.kept : Int)] 82)) = w8 from hw8]
      have hkw : w7.heap.size ≤ kb := by omega
      clear hkb hw8 L7 Y7
      have hok1 := Lib.hid L8.out.ok
      refine wp_region_sched [(0, true), (1, true), (2, true), (3, true), (4, true), (5, true), (6, true), (7, true), (9, true), (8, false), (10, false), (11, true), (12, true), (13, true), (14, true), (16, true), (17, true), (15, false), (18, true), (19, true), (20, true), (21, true), (23, true), (24, true), (22, false), (25, true), (26, true), (27, true), (28, true), (31, true), (32, true), (29, false), (30, true), (33, false), (34, true), (35, true), (36, true), (37, true), (39, true), (40, true), (41, true), (42, true), (38, false), (43, true), (44, true)] (by kernel_rfl) (by kernel_rfl) (fun _ _ d _ _ h => by cases d <;> exact h) ?_
      refine sbelow (w0 := w8) (Below.refl _ _).drew (fun B0 => ?_)
      refine swith (fun W hW => (cells7 (blk_old (bthen B0 hW.out) X8.out)).1) (fun q => ?_)
      repeat (first | (refine sreadx rfl rfl ?_; apply Exists.intro; apply And.intro; (· (intro W hW; first | (go_simp; done) | (go_simp; with_reducible rfl) | (go_simp; rw [if_neg (by omega)]; done) | (go_simp; rw [if_neg (by omega)]; with_reducible rfl))); simp only [Act.put, List.setIfInBounds_toArray, List.set_cons_zero, List.set_cons_succ]) | (refine sskip rfl rfl ?_; simp only [Act.put, List.setIfInBounds_toArray, List.set_cons_zero, List.set_cons_succ]))
      refine scall rfl rfl (fun K hK => ?_)
      go_simp
      refine (lfree_any (L8.out.below B0)).mono ?_; rintro e w9 ⟨rfl, b9⟩
      go_wp2_with fail
      refine hK.out _ _ (by exact b9) ?_
      clear hK K
      try simp only [Act.put, List.setIfInBounds_toArray, List.set_cons_zero, List.set_cons_succ]
      replace q := fun (W : World) (hW : Grow w9 W) => q W (Grow.trans (b9) hW)
      have B9 := bthen B0 b9
      clear b9
      repeat (first | (refine sreadx rfl rfl ?_; apply Exists.intro; apply And.intro; (· (intro W hW; first | (go_simp; done) | (go_simp; with_reducible rfl) | (go_simp; rw [if_neg (by omega)]; done) | (go_simp; rw [if_neg (by omega)]; with_reducible rfl))); simp only [Act.put, List.setIfInBounds_toArray, List.set_cons_zero, List.set_cons_succ]) | (refine sskip rfl rfl ?_; simp only [Act.put, List.setIfInBounds_toArray, List.set_cons_zero, List.set_cons_succ]))
      refine scall rfl rfl (fun K hK => ?_)
      go_simp
      refine (rlfree_any (Y8.out.below B9) hok1.out).mono ?_; rintro e w10 ⟨rfl, b10⟩
      go_wp2_with fail
      refine hK.out _ _ (by exact b10) ?_
      clear hK K
      try simp only [Act.put, List.setIfInBounds_toArray, List.set_cons_zero, List.set_cons_succ]
      replace q := fun (W : World) (hW : Grow w10 W) => q W (Grow.trans (b10) hW)
      have B10 := bthen B9 b10
      clear b10
      repeat (first | (refine sreadx rfl rfl ?_; apply Exists.intro; apply And.intro; (· (intro W hW; first | (go_simp; done) | (go_simp; with_reducible rfl) | (go_simp; rw [if_neg (by omega)]; done) | (go_simp; rw [if_neg (by omega)]; with_reducible rfl))); simp only [Act.put, List.setIfInBounds_toArray, List.set_cons_zero, List.set_cons_succ]) | (refine sskip rfl rfl ?_; simp only [Act.put, List.setIfInBounds_toArray, List.set_cons_zero, List.set_cons_succ]))
      refine scall rfl rfl (fun K hK => ?_)
      go_simp
      refine (lkept_any (L8.out.below B10)).mono ?_; rintro e w11 ⟨rfl, rfl⟩
      go_wp2_with fail
      refine hK.out _ _ (by exact Below.refl _ _) ?_
      clear hK K
      try simp only [Act.put, List.setIfInBounds_toArray, List.set_cons_zero, List.set_cons_succ]
      repeat (first | (refine sreadx rfl rfl ?_; apply Exists.intro; apply And.intro; (· (intro W hW; first | (go_simp; done) | (go_simp; with_reducible rfl) | (go_simp; rw [if_neg (by omega)]; done) | (go_simp; rw [if_neg (by omega)]; with_reducible rfl))); simp only [Act.put, List.setIfInBounds_toArray, List.set_cons_zero, List.set_cons_succ]) | (refine sskip rfl rfl ?_; simp only [Act.put, List.setIfInBounds_toArray, List.set_cons_zero, List.set_cons_succ]))
      refine scall rfl rfl (fun K hK => ?_)
      go_simp
      refine (lgen_any (L8.out.below B10)).mono ?_; rintro e w11 ⟨rfl, rfl⟩
      go_wp2_with fail
      refine hK.out _ _ (by exact Below.refl _ _) ?_
      clear hK K
      try simp only [Act.put, List.setIfInBounds_toArray, List.set_cons_zero, List.set_cons_succ]
      repeat (first | (refine sreadx rfl rfl ?_; apply Exists.intro; apply And.intro; (· (intro W hW; first | (go_simp; done) | (go_simp; with_reducible rfl) | (go_simp; rw [if_neg (by omega)]; done) | (go_simp; rw [if_neg (by omega)]; with_reducible rfl))); simp only [Act.put, List.setIfInBounds_toArray, List.set_cons_zero, List.set_cons_succ]) | (refine sskip rfl rfl ?_; simp only [Act.put, List.setIfInBounds_toArray, List.set_cons_zero, List.set_cons_succ]))
      refine scall rfl rfl (fun K hK => ?_)
      go_simp
      refine (log_any (L8.out.below B10).disk).mono ?_; rintro e w12 ⟨A9, n9, c9, rfl, o9, b12⟩
      go_wp2_with fail
      refine hK.out _ _ (by exact b12) ?_
      clear hK K
      try simp only [Act.put, List.setIfInBounds_toArray, List.set_cons_zero, List.set_cons_succ]
      replace q := fun (W : World) (hW : Grow w12 W) => q W (Grow.trans (b12) hW)
      have B12 := bthen B10 b12
      refine swith (fun W hW => (K.strq (c := c9) ((Rd.of_own o9).next hW.out))) (fun s9 => ?_)
      clear b12
      repeat (first | (refine sreadx rfl rfl ?_; apply Exists.intro; apply And.intro; (· (intro W hW; first | (go_simp; done) | (go_simp; with_reducible rfl) | (go_simp; rw [if_neg (by omega)]; done) | (go_simp; rw [if_neg (by omega)]; with_reducible rfl))); simp only [Act.put, List.setIfInBounds_toArray, List.set_cons_zero, List.set_cons_succ]) | (refine sskip rfl rfl ?_; simp only [Act.put, List.setIfInBounds_toArray, List.set_cons_zero, List.set_cons_succ]))
      refine scall rfl rfl (fun K hK => ?_)
      go_simp
      refine (rlog_any (Y8.out.below B12).ref hok1.out.1).mono ?_; rintro e w13 ⟨rfl, b13⟩
      go_wp2_with fail
      refine hK.out _ _ (by exact b13) ?_
      clear hK K
      try simp only [Act.put, List.setIfInBounds_toArray, List.set_cons_zero, List.set_cons_succ]
      replace q := fun (W : World) (hW : Grow w13 W) => q W (Grow.trans (b13) hW)
      replace s9 := fun (W : World) (hW : Grow w13 W) => s9 W (Grow.trans (b13) hW)
      have B13 := bthen B12 b13
      clear b13
      repeat (first | (refine sreadx rfl rfl ?_; apply Exists.intro; apply And.intro; (· (intro W hW; first | (go_simp; done) | (go_simp; with_reducible rfl) | (go_simp; rw [if_neg (by omega)]; done) | (go_simp; rw [if_neg (by omega)]; with_reducible rfl))); simp only [Act.put, List.setIfInBounds_toArray, List.set_cons_zero, List.set_cons_succ]) | (refine sskip rfl rfl ?_; simp only [Act.put, List.setIfInBounds_toArray, List.set_cons_zero, List.set_cons_succ]))
      refine scall rfl rfl (fun K hK => ?_)
      go_simp
      refine (sure_any (L8.out.below B13).disk).mono ?_; rintro e w14 ⟨rfl, b14⟩
      go_wp2_with fail
      refine hK.out _ _ (by exact b14) ?_
      clear hK K
      try simp only [Act.put, List.setIfInBounds_toArray, List.set_cons_zero, List.set_cons_succ]
      replace q := fun (W : World) (hW : Grow w14 W) => q W (Grow.trans (b14) hW)
      have B14 := bthen B13 b14
      clear b14
      repeat (first | (refine sreadx rfl rfl ?_; apply Exists.intro; apply And.intro; (· (intro W hW; first | (go_simp; done) | (go_simp; with_reducible rfl) | (go_simp; rw [if_neg (by omega)]; done) | (go_simp; rw [if_neg (by omega)]; with_reducible rfl))); simp only [Act.put, List.setIfInBounds_toArray, List.set_cons_zero, List.set_cons_succ]) | (refine sskip rfl rfl ?_; simp only [Act.put, List.setIfInBounds_toArray, List.set_cons_zero, List.set_cons_succ]))
      refine sdone ?_
      clear q s9
      have O8 := Lib.hid (O7.out.then_ B8.out)
      have X14 := Lib.hid (blk_old B14 X8.out)
      have bx14 := Lib.hid (blk_old B14 ((O8.out.block bx (by simp; omega) HL.out.bxg HL.out.bxl HL.out.bxr).trans (blk_old BA.out BX.out)))
      have BB := Lib.hid B14
      clear X8 B14 O7 B0 B9 B10 B12 B13 o9
      obtain ⟨⟨a0, a1, a2, a3, a4, a5, a6⟩, -⟩ := cells7 X14.out
      obtain ⟨⟨p0, p1, p2, p3, p4, p5, p6⟩, z0, z1, z2, z3, z4, z5, z6⟩ := cells7 bx14.out
      have HX1 := Lib.hid hx1
      clear hx1
      have FIN := Lib.hid (HL.out.turn BA.out O8.out L8.out HL7.out N7.out BB.out Y8.out).drew
      go_upto_region 12 with fail
      go_region
      obtain ⟨wF, hwF⟩ : ∃ wF, (((((((w14.setCell ⟨bx, 0, none⟩ (.int .i64 (x1.s.room : Int))).setCell ⟨bx, 1, none⟩ (str x1.s.sure)).setCell ⟨bx, 2, none⟩ (str x1.s.rest)).setCell ⟨bx, 3, none⟩ (.slice Z7 2 z7)).setCell ⟨bx, 4, none⟩ (.slice Z7' 2 z7')).setCell ⟨bx, 5, none⟩ (.int .u32 (x1.gen : Int))).setCell ⟨bx, 6, none⟩ (.int .i64 (x1.kept : Int))).drew = wF := ⟨_, rfl⟩
      unfold put7 at FIN
      rw [hwF] at FIN ⊢
      clear hwF
      go_wp2_with fail
      go_roundw
      case rel =>
        refine ⟨k + 1, lg7, r7, by omega, by go_num, rfl, by rw [HX1.out]; exact hsm1, ?_⟩
        rw [HX1.out]
        exact FIN
      case measure => simp [intOf]; omega
    · have hle := HL.out.le
      have hbel := HL.out.bel
      go_wp2_with fail
      refine (L.lives_any _).mono ?_; rintro e w7 ⟨rfl, b7⟩
      go_wp2_with fail
      go_ret
      exact ⟨rfl, hbel.trans (b7.mono hle)⟩
end Go.Proofs.Ytkcehoejcklmfaa.walPlays
