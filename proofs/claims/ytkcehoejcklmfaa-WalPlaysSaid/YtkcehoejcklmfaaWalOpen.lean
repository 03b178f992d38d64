/- The contract of wal.Open. -/
import Derived.Test.YtkcehoejcklmfaaWalNewest
import Derived.Test.YtkcehoejcklmfaaWalLogFns
import Derived.Test.YtkcehoejcklmfaaWalScan2
namespace Go.Proofs.Ytkcehoejcklmfaa.L
open Go.RowKit O D K

set_option maxHeartbeats 800000 in
theorem syncN_any {w : World} {base g : Nat} {r : Option Nat} {s : St} (h : DiskAt w base g r s) :
    Calls Try.prog 19 #[ptr g] w fun e w' => e = .returned (.tuple #[]) ∧ Only g none w w' ∧ DiskAt w' base g r s.sync := by
  obtain ⟨⟨A, n, c⟩, ⟨A0, n0, c0⟩, ⟨A1, n1, c1⟩, s0, s1, h, rfl⟩ := h
  have d0 := h.cell 0
  have d3 := h.cell 3
  have d4 := h.cell 4
  have f1 := h.free 1
  have f5 := h.free 5
  have f6 := h.free 6
  have d1 := h.cell 1
  have d5 := h.cell 5
  have d6 := h.cell 6
  have hl := h.len
  simp [cellsD] at d0 d1 d3 d4 d5 d6
  have Hh := Lib.hid h; clear h
  have Hhl := Lib.hid hl; clear hl
  go_enter Try.func19, Try.ntmps19
  go_wp2_with fail
  go_end0
  have h := Hh.out
  have ho : Only g none w (((w.setCell ⟨g, 1, none⟩ (.int .i64 n)).setCell ⟨g, 5, none⟩ (.slice A0 n0 c0)).setCell ⟨g, 6, none⟩ (.slice A1 n1 c1)) := (((Only.refl _ _ _).setCell _ _).setCell _ _).setCell _ _
  refine ⟨rfl, ho, ⟨⟨A, n, c⟩, ⟨A0, n0, c0⟩, ⟨A1, n1, c1⟩, ⟨A0, n0, c0⟩, ⟨A1, n1, c1⟩, ⟨?_, h.lo, ?_, h.off, h.rn0.only ho.weak, h.rn1.only ho.weak, h.rn0.only ho.weak, h.rn1.only ho.weak, sync_ok h.ok⟩, rfl⟩⟩
  · rw [row_setCell (row_setCell (row_setCell h.blk))]
    have := Hhl.out
    simp [cellsD, St.sync, this]
  · have := h.own ho
    simpa [St.sync, St.log] using this

set_option maxHeartbeats 800000 in
theorem clearN_any {w : World} {base g : Nat} {r : Option Nat} {s : St} (h : DiskAt w base g r s) :
    Calls Try.prog 29 #[ptr g] w fun e w' => e = .returned (.tuple #[]) ∧ Only g none w w' ∧ DiskAt w' base g none s.clear := by
  obtain ⟨⟨A, n, c⟩, ⟨A0, n0, c0⟩, ⟨A1, n1, c1⟩, s0, s1, h, rfl⟩ := h
  have f0 := h.free 0
  have f1 := h.free 1
  have d0 := h.cell 0
  have d1 := h.cell 1
  simp [cellsD] at d0 d1
  have Hh := Lib.hid h; clear h
  go_enter Try.func29, Try.ntmps29
  go_wp2_with fail
  go_end0
  have h := Hh.out
  have ho : Only g none w ((w.setCell ⟨g, 0, none⟩ (.slice none 0 0)).setCell ⟨g, 1, none⟩ (.int .i64 0)) := ((Only.refl _ _ _).setCell _ _).setCell _ _
  have hn : ∀ {x y}, RdO w g (blkOf A) x y → RdO _ g (blkOf none) x y := fun q => (q.only ho.weak).row (.inr (.inl rfl))
  refine ⟨rfl, ho, ⟨⟨none, 0, 0⟩, ⟨A0, n0, c0⟩, ⟨A1, n1, c1⟩, s0, s1, ⟨?_, h.lo, World.ownsRow_nil _ _ _ _, by simp [blkOf], hn h.rn0, hn h.rn1, hn h.rs0, hn h.rs1, clear_ok h.ok⟩, rfl⟩⟩
  rw [row_setCell (row_setCell h.blk)]
  simp [cellsD, St.clear]

def genS (s : St) : Nat := optG (newTo s 2)
def scanS (s : St) : List (List UInt8) × Nat := scanFrom s.log (genS s) 0
/-- The disk behind Open. -/
def openD (s : St) : St := (if (scanS s).2 < s.log.length then (s.clear.app (s.log.take (scanS s).2)).1 else s).sync
def openS (s : St) : LS := ⟨openD s, genS s, 0⟩
theorem results_tmp4 {fn : Func} {t u v x : Tmp} (h : fn.results = #[.tmp t, .tmp u, .tmp v, .tmp x]) (tmps : Array Value) (P : Program) (w : World) :
    (results fn tmps).run P w = .ok (.tuple #[tmps.getD t undef, tmps.getD u undef, tmps.getD v undef, tmps.getD x undef]) w := by
  simp [results, h]
theorem imageOf_lt {l : List UInt8} (hl : l.length < 1000000000) {g : Nat} {x : List UInt8} (h : imageOf l = some (g, x)) : g < 4294967296 := by
  unfold imageOf at h
  split at h
  · cases h
  · rename_i hf
    split at h
    · injection h with h
      injection h with h1 h2
      subst h1
      exact ((frameAt_some hl).1 hf).1
    · cases h
theorem newTo_lt {s : St} (h0 : s.n0.length ≤ 10000000) (h1 : s.n1.length ≤ 10000000) : ∀ k, optG (newTo s k) < 4294967296
  | 0 => by simp [newTo, optG]
  | k + 1 => by
    have ih := newTo_lt h0 h1 k
    have hl : (slotN s k).length < 1000000000 := by unfold slotN; split <;> omega
    unfold newTo
    unfold newer
    split
    · exact ih
    · rename_i y e _
      obtain ⟨y1, y2⟩ := y
      exact imageOf_lt hl (by assumption)
    · rename_i x y e1 e2
      obtain ⟨y1, y2⟩ := y
      split
      · exact imageOf_lt hl e2
      · rw [e1] at ih
        exact ih
theorem KeepU.of_only {w w' : World} {g base : Nat} {r : Option Nat} {s : St} (hd : DiskAt w base g r s) (h : Only g none w w') : KeepU w w' :=
  .of_grownBy h.grown (fun k hk cs fr e => by
    injection hk with hk
    subst hk
    obtain ⟨l, n0, n1, s0, s1, h, -⟩ := hd
    rw [h.blk] at e
    injection e with e
    injection e with _ e _
    exact absurd e (by decide))

def RetOpen (base g : Nat) (r : Option Nat) (s : St) (w : World) (e : Ending) (w' : World) : Prop :=
  ∃ A n c A' n' c' xs, e = .returned (.tuple #[ptr w.heap.size, .slice A n c, .slice A' n' c', .int .i64 0]) ∧ Rd w' w'.heap.size 1 A n (bv (optS (newTo s 2))) ∧ n ≤ c ∧
    w'.ownsRow w.heap.size 31 1 (.slice A' n' c') n' xs ∧ Reps (SlU w') (scanS s).1 xs ∧ Only g none w w' ∧ ∃ r', LogAt w' base g w.heap.size r' (openS s) ∧ NxR r r' w

/-- What Open has made, while it goes on to turn the disk. -/
structure OpI (w : World) (base g : Nat) (gen : Nat) (im : List UInt8) (rows : List (List UInt8)) (A : Option Addr) (n c : Nat) (A' : Option Addr) (n' c' : Nat) (xs : List Value) (W : World) (r : Option Nat) (t : St) : Prop where
  img : RdO W g none ⟨A, n, c⟩ im
  row : W.ownsRow w.heap.size 31 1 (.slice A' n' c') n' xs
  reps : Reps (SlU W) rows xs
  only : Only g none w W
  log : LogAt W base g w.heap.size r ⟨t, gen, 0⟩
  lt : g < w.heap.size
theorem only_trans {g : Nat} {a b c : World} (h : Only g none a b) (k : Only g none b c) : Only g none a c :=
  ⟨k.os.trans h.os, k.tape.trans h.tape, k.output.trans h.output, Nat.le_trans h.size k.size, fun x hx hg hr => (k.block x (Nat.lt_of_lt_of_le hx h.size) hg hr).trans (h.block x hx hg hr)⟩
theorem OpI.turn {w : World} {base g gen : Nat} {im : List UInt8} {rows : List (List UInt8)} {A A' : Option Addr} {n c n' c' : Nat} {xs : List Value} {W W' : World} {r r' : Option Nat} {t t' : St} (h : OpI w base g gen im rows A n c A' n' c' xs W r t)
    (ho : Only g none W W') (hd : DiskAt W' base g r' t') (hn : NxR r r' W) (hok : LS.ok ⟨t', gen, 0⟩) : OpI w base g gen im rows A n c A' n' c' xs W' r' t' := by
  have hlt := lt_of_block h.log.blk
  refine ⟨h.img.only ho, h.row.kept ho.grown (.inr fun e => ?_), h.reps.imp (SlU.keep (.of_only h.log.disk ho)), only_trans h.only ho, ⟨hd, blk_only ho h.log.blk h.log.lgg (by simp), h.log.lgg, ?_, h.log.lgb, hok⟩, h.lt⟩
  · have := (h.row.lt g e).1
    have := h.lt
    omega
  · rcases hn with rfl | rfl | ⟨k, rfl, hk⟩
    · exact h.log.lgr
    · simp
    · intro e; injection e with e; omega
theorem diskNoB {w : World} {base g : Nat} {r : Option Nat} {s : St} (h : DiskAt w base g r s) : NoB w g := by
  obtain ⟨l, n0, n1, s0, s1, h, -⟩ := h
  exact ⟨_, _, h.blk, by simp [cellsD, noU8], by decide⟩
theorem rdO_of_rd {w : World} {base g : Nat} {r : Option Nat} {s : St} {A : Option Addr} {n c : Nat} {l : List UInt8} (hd : DiskAt w base g r s) (h : Rd w w.heap.size 1 A n (bv l)) : RdO w g none ⟨A, n, c⟩ l :=
  ⟨h, fun hn b hb => ⟨Rd.apart h (diskNoB hd) hn hb, by simp⟩⟩

set_option maxRecDepth 100000 in
set_option maxHeartbeats 4000000 in
theorem lopen_any {w : World} {base g : Nat} {r : Option Nat} {s : St} (h : DiskAt w base g r s) (h0 : s.n0.length ≤ 10000000) (h1 : s.n1.length ≤ 10000000) (hbase : base ≤ w.heap.size) :
    Calls Try.prog 44 #[ptr g] w (RetOpen base g r s w) := by
  have hgn : genS s < 4294967296 := newTo_lt h0 h1 2
  have hlt := h.lt
  have hok : s.ok := by obtain ⟨l, n0, n1, s0, s1, h, -⟩ := h; exact h.ok
  obtain ⟨ok1, ok2⟩ := hok
  have ba : Below w.heap.size w (w.alloc (.cells #[ptr g, .int .u32 0, .int .i64 0] 113)) := (Below.refl _ _).alloc (Nat.le_refl _) _
  have hL1 : LogAt (w.alloc (.cells #[ptr g, .int .u32 0, .int .i64 0] 113)) base g w.heap.size r ⟨s, 0, 0⟩ :=
    ⟨h.below ba, heap_alloc_new w _, by omega, fun e => by have := (hlt.2.2 _ e).2; omega, hbase, ⟨⟨ok1, ok2⟩, show 0 < 4294967296 by omega, ok2⟩⟩
  have hE : (optG (newTo s 2) : Int) = (genS s : Int) := rfl
  have Hh := Lib.hid h; clear h
  have HhL1 := Lib.hid hL1; clear hL1
  have HhE := Lib.hid hE; clear hE
  go_enter Try.func44, Try.ntmps44
  go_wp2_with fail
  refine (newest_any HhL1.out.disk h0 h1).mono ?_; rintro e w2 ⟨A, n, c, rfl, r2, hnc, b2⟩
  rw [HhE.out]
  have hL2 := HhL1.out.below b2
  have hlg2 := lt_of_block hL2.blk
  obtain ⟨⟨c0, c1, c2⟩, f0, f1, f2⟩ := log_cells hL2
  have I2 : RdO w2 g none ⟨A, n, c⟩ (optS (newTo s 2)) := rdO_of_rd hL2.disk r2
  have B2 : Below w.heap.size w w2 := ba.trans (b2.mono (by simp))
  clear r2 b2 ba
  have HhL2 := Lib.hid hL2; clear hL2
  have HI2 := Lib.hid I2; clear I2
  have HB2 := Lib.hid B2; clear B2
  go_wp2_with fail
  have hbx : Box w.heap.size 1 w2 (w2.setCell ⟨w.heap.size, 1, none⟩ (.int .u32 (genS s : Int))) := (Box.refl _ _ _).setCell (by omega) (by omega) _
  have hL3 : LogAt (w2.setCell ⟨w.heap.size, 1, none⟩ (.int .u32 (genS s : Int))) base g w.heap.size r ⟨s, genS s, 0⟩ := HhL2.out.put hbx rfl (by rw [row_setCell HhL2.out.blk]; simp) ⟨⟨ok1, ok2⟩, hgn, ok2⟩
  have I3 := HI2.out.box hbx HhL2.out.noB
  have B3 : Below w.heap.size w (w2.setCell ⟨w.heap.size, 1, none⟩ (.int .u32 (genS s : Int))) := HB2.out.setCell (Nat.le_refl _) _
  generalize w2.setCell ⟨w.heap.size, 1, none⟩ (.int .u32 (genS s : Int)) = W3 at *
  clear c0 c1 c2 f0 f1 f2 hbx
  refine (log_any hL3.disk).mono ?_; rintro e w4 ⟨A4, m, c4, rfl, o4, b4⟩
  have hL4 := hL3.below b4
  have I4 := I3.below b4
  have B4 : Below w.heap.size w w4 := B3.trans (b4.mono B3.size)
  have hg3 := hL3.disk.lt.2.1
  have J4 : RdO w4 g none ⟨A4, m, c4⟩ s.log := RdO.fresh o4 hg3 (by simp)
  have hm := own_len o4
  have hc4 := own_cap o4
  obtain ⟨⟨c0, c1, c2⟩, f0, f1, f2⟩ := log_cells hL4
  have HhL3 := Lib.hid hL3; clear hL3
  have HI3 := Lib.hid I3; clear I3
  have HB3 := Lib.hid B3; clear B3
  have Ho4 := Lib.hid o4; clear o4
  have HhL4 := Lib.hid hL4; clear hL4
  have HI4 := Lib.hid I4; clear I4
  have HB4 := Lib.hid B4; clear B4
  have HJ4 := Lib.hid J4; clear J4
  have Hb4 := Lib.hid b4; clear b4
  go_wp2_with fail
  refine (scan_any A4 m c4 (genS s) s.log _ (Rd.of_own Ho4.out) hc4.1 (by omega) hc4.2 hgn).mono ?_; rintro e w5 ⟨A', n', c', xs, rfl, o5, hreps, b5⟩
  have hs4 := HB4.out.size
  have B5 : Below w.heap.size w w5 := HB4.out.trans (b5.mono hs4)
  have O5 : OpI w base g (genS s) (optS (newTo s 2)) (scanS s).1 A n c A' n' c' xs w5 r s := ⟨HI4.out.below b5, own_more o5 hs4, hreps, .of_below B5, HhL4.out.below b5, hlt.2.1⟩
  have J5 := HJ4.out.below b5
  have hq : (scanFrom s.log (genS s) 0).2 = (scanS s).2 := rfl
  rw [hq]
  have hD : openD s = (if (scanS s).2 < s.log.length then (s.clear.app (s.log.take (scanS s).2)).1 else s).sync := rfl
  clear c0 c1 c2 f0 f1 f2 hq b5 o5 hreps
  obtain ⟨⟨c0, c1, c2⟩, f0, f1, f2⟩ := log_cells O5.log
  have hbase5 : base ≤ w5.heap.size := by have := B5.size; omega
  have HO5 := Lib.hid O5; clear O5
  have HJ5 := Lib.hid J5; clear J5
  have HB5 := Lib.hid B5; clear B5
  have HhD := Lib.hid hD; clear hD
  generalize hqq : (scanS s).2 = q at *
  by_cases hlt2 : q < m
  · go_wp2_with fail
    refine (clearN_any HO5.out.log.disk).mono ?_; rintro e w6 ⟨rfl, o6, d6⟩
    have O6 := HO5.out.turn o6 d6 (.inr (.inl rfl)) ⟨clear_ok ⟨ok1, ok2⟩, hgn, by simp [St.clear, St.log]⟩
    have J6 := HJ5.out.only o6
    have hbase6 : base ≤ w6.heap.size := by have := o6.size; omega
    clear c0 c1 c2 f0 f1 f2
    have hR : s.log.take q = s.log.take q := rfl
    have R6 : Rd w6 w6.heap.size 1 A4 q (bv (s.log.take q)) := by
      have := J6.1.take_ q
      rwa [show min m q = q by omega] at this
    have hlg6 := lt_of_block O6.log.blk
    have hap : (s.clear.app (s.log.take q)).1.ok := app_ok (clear_ok ⟨ok1, ok2⟩) _
    have hq9 : (q : Int) ≤ (c4 : Int) := by omega
    clear hR
    have HO6 := Lib.hid O6; clear O6
    have HJ6 := Lib.hid J6; clear J6
    have Ho6 := Lib.hid o6; clear o6
    have Hd6 := Lib.hid d6; clear d6
    have HR6 := Lib.hid R6; clear R6
    have Hhap := Lib.hid hap; clear hap
    go_wp2_with fail
    refine wp_region_schedB [w.heap.size] [(0, true), (1, true), (2, true), (3, true), (4, true), (5, true), (6, true), (7, false)] (by kernel_rfl) (by kernel_rfl) (fun _ _ d _ _ h => by cases d <;> exact h) ?_
    refine bwith (fun W hW => (cells3 (hW.one HO6.out.log.blk)).1) (fun q0 => ?_)
    repeat (first | (refine sreadxB rfl rfl ?_; apply Exists.intro; apply And.intro; (· (intro W hW; first | (go_simp; done) | (go_simp; with_reducible rfl) | (go_simp; rw [if_neg (by omega)]; done) | (go_simp; rw [if_neg (by omega)]; with_reducible rfl))); simp only [Act.put, List.setIfInBounds_toArray, List.set_cons_zero, List.set_cons_succ]) | (refine bskip rfl rfl ?_; simp only [Act.put, List.setIfInBounds_toArray, List.set_cons_zero, List.set_cons_succ]))
    refine KB.lay (w0 := w6) (Below.refl _ _).drew (fun C6 => ?_)
    refine bcall rfl rfl (fun K hK => ?_)
    go_simp
    refine (append_any (Hd6.out.below C6) A4 q c4 (s.log.take q) (HR6.out.next C6) hbase6 (by omega)).mono ?_; rintro e w7 ⟨rfl, t7⟩
    go_wp2_with fail
    refine hK.out _ _ (by exact fun k hk => t7.1.block k (by simp at hk; rw [hk]; exact hlg6) (by simp at hk; omega) (by simp)) ?_
    clear hK K
    try simp only [Act.put, List.setIfInBounds_toArray, List.set_cons_zero, List.set_cons_succ]
    refine bdone ?_
    clear q0
    obtain ⟨o7, r7, d7, n7⟩ := t7
    have O7 := HO6.out.turn (only_trans (.of_below C6) o7) d7 n7 ⟨Hhap.out, hgn, Hhap.out.2⟩
    have HO7 := Lib.hid O7; clear O7
    have Ho7 := Lib.hid o7; clear o7
    have Hd7 := Lib.hid d7; clear d7
    have Hn7 := Lib.hid n7; clear n7
    go_wp2_with fail
    refine (syncN_any HO7.out.log.disk).mono ?_; rintro e w8 ⟨rfl, o8, d8⟩
    have O8 := HO7.out.turn o8 d8 (.inl rfl) (LS.sync_ok HO7.out.log.ok)
    have HO8 := Lib.hid O8; clear O8
    have Ho8 := Lib.hid o8; clear o8
    have Hd8 := Lib.hid d8; clear d8
    go_wp2_with fail
    (try simp only [Exit.inBlock, Exit.then]); refine bodyPost_ret (results_tmp4 rfl _ _ _) rfl ?_
    have O8 := HO8.out
    have hD := HhD.out
    rw [if_pos (by omega)] at hD
    refine ⟨A, n, c, A', n', c', xs, rfl, O8.img.1, hnc, O8.row, O8.reps, O8.only, r7, ?_, ?_⟩
    · have := O8.log
      unfold openS
      rw [hD]
      exact this
    · have hs6 := (HB5.out.size : _ ≤ _)
      have hs7 := Ho6.out.size
      rcases Hn7.out with e | e | ⟨k, e, hk⟩
      · exact .inr (.inl e)
      · exact .inr (.inl e)
      · exact .inr (.inr ⟨k, e, by have : w6.drew.heap.size = w6.heap.size := rfl; omega⟩)
  · go_wp2_with fail
    refine (syncN_any HO5.out.log.disk).mono ?_; rintro e w8 ⟨rfl, o8, d8⟩
    have O8 := HO5.out.turn o8 d8 (.inl rfl) (LS.sync_ok HO5.out.log.ok)
    have HO8 := Lib.hid O8; clear O8
    have Ho8 := Lib.hid o8; clear o8
    have Hd8 := Lib.hid d8; clear d8
    go_wp2_with fail
    (try simp only [Exit.inBlock, Exit.then]); refine bodyPost_ret (results_tmp4 rfl _ _ _) rfl ?_
    have O8 := HO8.out
    have hD := HhD.out
    rw [if_neg (by omega)] at hD
    refine ⟨A, n, c, A', n', c', xs, rfl, O8.img.1, hnc, O8.row, O8.reps, O8.only, r, ?_, .inl rfl⟩
    have := O8.log
    unfold openS
    rw [hD]
    exact this
end Go.Proofs.Ytkcehoejcklmfaa.L
