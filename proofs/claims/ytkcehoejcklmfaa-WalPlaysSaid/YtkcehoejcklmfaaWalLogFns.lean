/- The contracts of (*wal.Log)'s Gen, Kept, Free, Keep, Let, Add, AddKept, Sync. -/
import Derived.Test.YtkcehoejcklmfaaWalLogMem
import Derived.Test.YtkcehoejcklmfaaDiskFns2
import Derived.Test.YtkcehoejcklmfaaDiskWrite
import Derived.Test.YtkcehoejcklmfaaSchedB
namespace Go.Proofs.Ytkcehoejcklmfaa.L
open Go.RowKit O D K

variable {w : World} {base g lg : Nat} {r : Option Nat} {x : LS}
theorem lgen_any (h : LogAt w base g lg r x) : Calls Try.prog 45 #[ptr lg] w fun e w' => e = .returned (.int .u32 (x.gen : Int)) ∧ w = w' := by
  obtain ⟨⟨c0, c1, c2⟩, -⟩ := log_cells h
  clear h
  go_enter Try.func45, Try.ntmps45
  go_wp2_with fail
  go_ret
  exact ⟨rfl, rfl⟩
theorem lkept_any (h : LogAt w base g lg r x) : Calls Try.prog 54 #[ptr lg] w fun e w' => e = .returned (.int .i64 (x.kept : Int)) ∧ w = w' := by
  obtain ⟨⟨c0, c1, c2⟩, -⟩ := log_cells h
  clear h
  go_enter Try.func54, Try.ntmps54
  go_wp2_with fail
  go_ret
  exact ⟨rfl, rfl⟩

set_option maxRecDepth 100000 in
set_option maxHeartbeats 1000000 in
theorem lfree_any (h : LogAt w base g lg r x) : Calls Try.prog 51 #[ptr lg] w fun e w' => e = .returned (.int .i64 (x.free : Int)) ∧ Below w.heap.size w w' := by
  obtain ⟨o1, o2, o3⟩ := h.ok
  have hr1 := o1.1
  have hr2 := o1.2
  have hlt := lt_of_block h.blk
  have hw : IntKind.i64.wrap (((x.s.room : Int) - (x.s.log.length : Int)) - (x.kept : Int)) = ((x.s.room : Int) - (x.s.log.length : Int)) - (x.kept : Int) := IntWalk.i64_in _ (by omega)
  have hmax : max (((x.s.room : Int) - (x.s.log.length : Int)) - (x.kept : Int)) 0 = (x.free : Int) := by unfold LS.free; omega
  have Hh := Lib.hid h; clear h
  go_enter Try.func51, Try.ntmps51
  go_wp2_with fail
  refine wp_region_sched [(0, true), (1, true), (2, true), (3, true), (5, true), (6, true), (7, true), (8, true), (4, false), (9, true), (10, true), (11, true)] (by kernel_rfl) (by kernel_rfl) (fun _ _ d _ _ h => by cases d <;> exact h) ?_
  refine sbelow (w0 := w) ((Below.refl _ _).drew) (fun B0 => ?_)
  refine swith (fun W hW => (log_cells (Hh.out.below (bthen B0 hW.out))).1) (fun q => ?_)
  repeat (first | (refine sreadx rfl rfl ?_; apply Exists.intro; apply And.intro; (· (intro W hW; first | (go_simp; done) | (go_simp; with_reducible rfl) | (go_simp; rw [if_neg (by omega)]; done) | (go_simp; rw [if_neg (by omega)]; with_reducible rfl))); simp only [Act.put, List.setIfInBounds_toArray, List.set_cons_zero, List.set_cons_succ]) | (refine sskip rfl rfl ?_; simp only [Act.put, List.setIfInBounds_toArray, List.set_cons_zero, List.set_cons_succ]))
  refine scall rfl rfl (fun K hK => ?_)
  go_simp
  refine (room_any' (Hh.out.below B0).disk).mono ?_; rintro e w1 ⟨rfl, b1⟩
  go_wp2_with fail
  refine hK.out _ _ (by exact b1) ?_
  clear hK K
  try simp only [Act.put, List.setIfInBounds_toArray, List.set_cons_zero, List.set_cons_succ]
  replace q := fun (W : World) (hW : Grow w1 W) => q W (Grow.trans (b1) hW)
  repeat (first | (refine sreadx rfl rfl ?_; apply Exists.intro; apply And.intro; (· (intro W hW; first | (go_simp; done) | (go_simp; with_reducible rfl) | (go_simp; rw [if_neg (by omega)]; done) | (go_simp; rw [if_neg (by omega)]; with_reducible rfl))); simp only [Act.put, List.setIfInBounds_toArray, List.set_cons_zero, List.set_cons_succ]) | (refine sskip rfl rfl ?_; simp only [Act.put, List.setIfInBounds_toArray, List.set_cons_zero, List.set_cons_succ]))
  refine sdone ?_
  clear q
  go_wp2_with fail
  go_ret
  refine ⟨?_, bthen B0 b1⟩
  first | rfl | (rw [hmax])

set_option maxRecDepth 100000 in
set_option maxHeartbeats 1000000 in
theorem lkeep_any (n : Int) (h : LogAt w base g lg r x) : Calls Try.prog 50 #[ptr lg, .int .i64 n] w fun e w' => e = .returned (.int .i64 (x.keep n).2) ∧ TurnedL base g lg r (x.keep n).1 w w' := by
  have hok := LS.keep_ok h.ok n
  obtain ⟨o1, o2, o3⟩ := h.ok
  have hr1 := o1.1
  have hfr : x.free ≤ 1048576 := by unfold LS.free; omega
  have hkp : x.kept + x.free ≤ 1048576 := by unfold LS.free; omega
  by_cases hn : n < 0
  · have hE : x.keep n = (x, 1) := by unfold LS.keep; rw [if_pos hn]
    rw [hE]
    have Hh := Lib.hid h; clear h
    have HhE := Lib.hid hE; clear hE
    go_enter Try.func50, Try.ntmps50
    go_wp2_with fail
    go_ret
    exact ⟨rfl, .refl Hh.out (Below.refl _ _)⟩
  · have hn0 : 0 ≤ n := by omega
    have F := lfree_any h
    by_cases hf : (x.free : Int) < n
    · have hE : x.keep n = (x, 5) := by unfold LS.keep; rw [if_neg hn, if_pos hf]
      rw [hE]
      have Hh := Lib.hid h; clear h
      have HhE := Lib.hid hE; clear hE
      have HF := Lib.hid F; clear F
      go_enter Try.func50, Try.ntmps50
      go_wp2_with fail
      refine (HF.out).mono ?_; rintro e w1 ⟨rfl, b1⟩
      go_wp2_with fail
      go_ret
      exact ⟨rfl, .refl Hh.out b1⟩
    · obtain ⟨m, rfl⟩ := Int.eq_ofNat_of_zero_le hn0
      have hE : x.keep (m : Int) = ({ x with kept := x.kept + m }, 0) := by unfold LS.keep; rw [if_neg hn, if_neg hf]; simp
      rw [hE] at hok ⊢
      have hm : m ≤ x.free := by omega
      have Hh := Lib.hid h; clear h
      have HhE := Lib.hid hE; clear hE
      have HF := Lib.hid F; clear F
      have Hhok := Lib.hid hok; clear hok
      go_enter Try.func50, Try.ntmps50
      go_wp2_with fail
      refine (HF.out).mono ?_; rintro e w1 ⟨rfl, b1⟩
      obtain ⟨⟨c0, c1, c2⟩, f0, f1, f2⟩ := log_cells (Hh.out.below b1)
      have B1 := Lib.hid b1; clear b1
      go_wp2_with fail
      go_ret
      refine ⟨rfl, ?_⟩
      have hb : Box lg 1 w1 (w1.setCell ⟨lg, 2, none⟩ (.int .i64 ((x.kept : Int) + (m : Int)))) := (Box.refl _ _ _).setCell (by omega) (by omega) _
      refine TurnedL.trans (x1 := x) (.of_below B1.out) (.inl rfl) ((Hh.out.below B1.out).written hb rfl ?_ Hhok.out)
      rw [row_setCell (Hh.out.below B1.out).blk]
      simp

set_option maxRecDepth 100000 in
set_option maxHeartbeats 1000000 in
theorem llet_any (n : Int) (h : LogAt w base g lg r x) : Calls Try.prog 52 #[ptr lg, .int .i64 n] w fun e w' => e = .returned (.tuple #[]) ∧ TurnedL base g lg r (x.let_ n) w w' := by
  have hok := LS.let_ok h.ok n
  obtain ⟨o1, o2, o3⟩ := h.ok
  have hr1 := o1.1
  obtain ⟨⟨c0, c1, c2⟩, f0, f1, f2⟩ := log_cells h
  obtain ⟨m, hm⟩ : ∃ m : Nat, (m : Int) = max 0 (min n (x.kept : Int)) := ⟨(max 0 (min n (x.kept : Int))).toNat, by omega⟩
  have hmk : m ≤ x.kept := by omega
  have hw : IntKind.i64.wrap ((x.kept : Int) - max 0 (min n (x.kept : Int))) = (x.kept : Int) - (m : Int) := by rw [← hm]; exact IntWalk.i64_in _ (by omega)
  have hL : x.let_ n = { x with kept := x.kept - m } := by unfold LS.let_; congr 1; omega
  rw [hL] at hok ⊢
  have Hh := Lib.hid h; clear h
  have HhL := Lib.hid hL; clear hL
  have Hhok := Lib.hid hok; clear hok
  have Hhm := Lib.hid hm; clear hm
  go_enter Try.func52, Try.ntmps52
  go_wp2_with fail
  go_region
  go_wp2_with fail
  go_end0
  refine ⟨rfl, ?_⟩
  have hb : Box lg 1 w (w.setCell ⟨lg, 2, none⟩ (.int .i64 ((x.kept : Int) - (m : Int)))).drew := ((Box.refl _ _ _).setCell (by omega) (by omega) _).drew
  refine Hh.out.written hb rfl ?_ Hhok.out
  have : (w.setCell ⟨lg, 2, none⟩ (.int .i64 ((x.kept : Int) - (m : Int)))).heap[lg]? = _ := row_setCell Hh.out.blk
  refine Eq.trans this ?_
  simp
  omega

set_option maxHeartbeats 1000000 in
theorem lsync_any (h : LogAt w base g lg r x) : Calls Try.prog 49 #[ptr lg] w fun e w' => e = .returned (.tuple #[]) ∧ TurnedL base g lg r x.sync w w' := by
  have hok := LS.sync_ok h.ok
  obtain ⟨⟨c0, c1, c2⟩, f0, f1, f2⟩ := log_cells h
  have Hh := Lib.hid h; clear h
  have Hhok := Lib.hid hok; clear hok
  go_enter Try.func49, Try.ntmps49
  go_wp2_with fail
  refine (sync_any Hh.out.disk).mono ?_; rintro e w1 ⟨rfl, t1⟩
  go_wp2_with fail
  go_end0
  exact ⟨rfl, Hh.out.turned t1 Hhok.out⟩

set_option maxRecDepth 100000 in
set_option maxHeartbeats 2000000 in
theorem ladd_any (A : Option Addr) (n c : Nat) (b : List UInt8) (h : LogAt w base g lg r x) (hb : Rd w w.heap.size 1 A n (bv b)) (hn : n ≤ 100000000) (hbase : base ≤ w.heap.size) :
    Calls Try.prog 46 #[ptr lg, .slice A n c] w fun e w' => e = .returned (.int .i64 (x.add b).2) ∧ TurnedL base g lg r (x.add b).1 w w' := by
  have hok := LS.add_ok h.ok b
  obtain ⟨o1, o2, o3⟩ := h.ok
  have hr1 := o1.1
  have hfr : x.free ≤ 1048576 := by unfold LS.free; omega
  obtain ⟨⟨c0, c1, c2⟩, f0, f1, f2⟩ := log_cells h
  have hfit : (frameL x.gen b).length ≤ x.free → x.s.log.length + (frameL x.gen b).length ≤ x.s.room := by unfold LS.free; omega
  have hbl : b.length = n := by have := hb.1; simp at this; omega
  have hfl : (frameL x.gen b).length ≤ 200000000 := by
    have h10 := uintL_len10 b.length (by omega)
    rw [frameL_len, textL_len]
    omega
  have Hh := Lib.hid h; clear h
  have Hhok := Lib.hid hok; clear hok
  have Hhb := Lib.hid hb; clear hb
  have Hhbl := Lib.hid hbl; clear hbl
  have Hhfit := Lib.hid hfit; clear hfit
  go_enter Try.func46, Try.ntmps46
  go_wp2_with fail
  refine (frame_any A n c x.gen b _ Hhb.out hn o2).mono ?_; rintro e w1 ⟨A1, n1, d1, rfl, q1, b1⟩
  have hn1 := own_len q1
  have hL1 := Hh.out.below b1
  have F := lfree_any hL1
  have HhL1 := Lib.hid hL1; clear hL1
  have HF := Lib.hid F; clear F
  have Hq1 := Lib.hid q1; clear q1
  go_wp2_with fail
  refine (HF.out).mono ?_; rintro e w2 ⟨rfl, b2⟩
  have b12 := bthen b1 b2
  have hL2 := Hh.out.below b12
  have s2 := b12.size
  by_cases hf : x.free < (frameL x.gen b).length
  · have hE : x.add b = (x, 4) := by unfold LS.add; rw [if_pos hf]
    have hf2 : x.free < n1 := by omega
    clear hn1 hf
    have HhE := Lib.hid hE; clear hE
    have HhL2 := Lib.hid hL2; clear hL2
    go_wp2_with fail
    go_ret
    rw [HhE.out]
    exact ⟨rfl, .refl Hh.out b12⟩
  · have hE : x.add b = ({ x with s := (x.s.app (frameL x.gen b)).1 }, 0) := by unfold LS.add; rw [if_neg hf]
    have hf2 : n1 ≤ x.free := by omega
    have ha := app_fits (Hhfit.out (by omega))
    obtain ⟨⟨c0', c1', c2'⟩, -⟩ := log_cells hL2
    have hn1' : n1 ≤ 200000000 := by omega
    clear hn1 hf c0 c1 c2 f0 f1 f2
    have HhE := Lib.hid hE; clear hE
    have HhL2 := Lib.hid hL2; clear hL2
    have Hha := Lib.hid ha; clear ha
    go_wp2_with fail
    refine (append_any HhL2.out.disk A1 n1 d1 (frameL x.gen b) ((Rd.of_own Hq1.out).next b2) (by omega) (by omega)).mono ?_; rintro e w3 ⟨rfl, t3⟩
    rw [show (x.s.app (frameL x.gen b)).2 = 0 by rw [Hha.out]]
    go_wp2_with fail
    go_ret
    have hok := Hhok.out
    rw [HhE.out] at hok ⊢
    exact ⟨rfl, TurnedL.trans (x1 := x) (.of_below b12) (.inl rfl) (HhL2.out.turned t3 hok)⟩

set_option maxRecDepth 100000 in
set_option maxHeartbeats 2000000 in
theorem laddKept_any (A : Option Addr) (n c : Nat) (b : List UInt8) (h : LogAt w base g lg r x) (hb : Rd w w.heap.size 1 A n (bv b)) (hn : n ≤ 100000000) (hbase : base ≤ w.heap.size) :
    Calls Try.prog 53 #[ptr lg, .slice A n c] w fun e w' => e = .returned (.int .i64 (x.addKept b).2) ∧ TurnedL base g lg r (x.addKept b).1 w w' := by
  have hok := LS.addKept_ok h.ok b
  obtain ⟨o1, o2, o3⟩ := h.ok
  have hr1 := o1.1
  have hk1 : x.kept ≤ 1048576 := by omega
  obtain ⟨⟨c0, c1, c2⟩, f0, f1, f2⟩ := log_cells h
  have hfit : (frameL x.gen b).length ≤ x.kept → x.s.log.length + (frameL x.gen b).length ≤ x.s.room := by omega
  have hbl : b.length = n := by have := hb.1; simp at this; omega
  have hfl : (frameL x.gen b).length ≤ 200000000 := by
    have h10 := uintL_len10 b.length (by omega)
    rw [frameL_len, textL_len]
    omega
  have Hh := Lib.hid h; clear h
  have Hhok := Lib.hid hok; clear hok
  have Hhb := Lib.hid hb; clear hb
  have Hhbl := Lib.hid hbl; clear hbl
  have Hhfit := Lib.hid hfit; clear hfit
  go_enter Try.func53, Try.ntmps53
  go_wp2_with fail
  refine (frame_any A n c x.gen b _ Hhb.out hn o2).mono ?_; rintro e w1 ⟨A1, n1, d1, rfl, q1, b1⟩
  have hn1 := own_len q1
  have hL1 := Hh.out.below b1
  have s1 := b1.size
  obtain ⟨⟨c0', c1', c2'⟩, f0', f1', f2'⟩ := log_cells hL1
  clear c0 c1 c2 f0 f1 f2
  by_cases hf : x.kept < (frameL x.gen b).length
  · have hE : x.addKept b = (x, 6) := by unfold LS.addKept; rw [if_pos hf]
    have hf2 : x.kept < n1 := by omega
    clear hn1 hf
    have HhE := Lib.hid hE; clear hE
    have HhL1 := Lib.hid hL1; clear hL1
    have Hq1 := Lib.hid q1; clear q1
    go_wp2_with fail
    go_ret
    rw [HhE.out]
    exact ⟨rfl, .refl Hh.out b1⟩
  · have hE : x.addKept b = ({ x with s := (x.s.app (frameL x.gen b)).1, kept := x.kept - (frameL x.gen b).length }, 0) := by unfold LS.addKept; rw [if_neg hf]
    have hf2 : n1 ≤ x.kept := by omega
    have ha := app_fits (Hhfit.out (by omega))
    have hn1' : n1 ≤ 200000000 := by omega
    have HN1 := Lib.hid hn1; clear hn1
    clear hf
    have HhE := Lib.hid hE; clear hE
    have HhL1 := Lib.hid hL1; clear hL1
    have Hha := Lib.hid ha; clear ha
    have Hq1 := Lib.hid q1; clear q1
    go_wp2_with fail
    refine (append_any HhL1.out.disk A1 n1 d1 (frameL x.gen b) (Rd.of_own Hq1.out) (by omega) (by omega)).mono ?_; rintro e w3 ⟨rfl, t3⟩
    rw [show (x.s.app (frameL x.gen b)).2 = 0 by rw [Hha.out]]
    have k3 := blk_only t3.1 HhL1.out.blk HhL1.out.lgg HhL1.out.lgr
    obtain ⟨⟨e0, e1, e2⟩, g0, g1, g2⟩ := cells3 k3
    clear c0' c1' c2' f0' f1' f2'
    have T3 := Lib.hid t3; clear t3
    have K3 := Lib.hid k3; clear k3
    go_wp2_with fail
    go_ret
    have hok := Hhok.out
    rw [HhE.out] at hok ⊢
    refine ⟨rfl, TurnedL.trans (x1 := x) (.of_below b1) (.inl rfl) (HhL1.out.both T3.out (w4 := w3.setCell ⟨lg, 2, none⟩ (.int .i64 ((x.kept : Int) - (n1 : Int)))) ((Box.refl _ _ _).setCell (by omega) (by omega) _) rfl ?_ hok)⟩
    rw [row_setCell K3.out]
    have := HN1.out
    simp
    omega

set_option maxRecDepth 100000 in
set_option maxHeartbeats 2000000 in
theorem lcheck_any (A : Option Addr) (n c : Nat) (b : List UInt8) (h : LogAt w base g lg r x) (hb : Rd w w.heap.size 1 A n (bv b)) (hn : n ≤ 100000000) (_hbase : base ≤ w.heap.size) :
    Calls Try.prog 47 #[ptr lg, .slice A n c] w fun e w' => e = .returned (.int .i64 (x.check b).2) ∧ TurnedL base g lg r (x.check b).1 w w' := by
  have hok := LS.check_ok h.ok b
  obtain ⟨o1, o2, o3⟩ := h.ok
  obtain ⟨⟨c0, c1, c2⟩, f0, f1, f2⟩ := log_cells h
  have hbl : b.length = n := by have := hb.1; simp at this; omega
  by_cases hbig : 1048576 < n
  · have hE : x.check b = (x, 2) := by unfold LS.check; rw [if_pos (by omega)]
    rw [hE]
    clear hok hbl
    have Hh := Lib.hid h; clear h
    have HhE := Lib.hid hE; clear hE
    have Hhb := Lib.hid hb; clear hb
    go_enter Try.func47, Try.ntmps47
    go_wp2_with fail
    go_ret
    exact ⟨rfl, .refl Hh.out (Below.refl _ _)⟩
  · by_cases hg9 : x.gen = 4294967295
    · have hE : x.check b = (x, 4) := by unfold LS.check; rw [if_neg (by omega), if_pos hg9]
      have hgb : ((x.gen : Int) == 4294967295) = true := by simp; omega
      rw [hE]
      clear hok hbl hg9
      have Hh := Lib.hid h; clear h
      have HhE := Lib.hid hE; clear hE
      have Hhb := Lib.hid hb; clear hb
      go_enter Try.func47, Try.ntmps47
      go_wp2_with fail
      go_ret
      exact ⟨rfl, .refl Hh.out (Below.refl _ _)⟩
    · have hgb : ((x.gen : Int) == 4294967295) = false := by simp; omega
      have hg1 : x.gen + 1 < 4294967296 := by omega
      have hE : x.check b = ({ s := (x.s.write ((x.gen + 1) % 2 : Nat) (frameL (x.gen + 1) b)).1.sync.clear, gen := x.gen + 1, kept := x.kept }, 0) := by unfold LS.check; rw [if_neg (by omega), if_neg hg9]
      rw [hE] at hok ⊢
      have hx1 : LS.ok { x with gen := x.gen + 1 } := ⟨o1, hg1, o3⟩
      clear hg9
      have Hh := Lib.hid h; clear h
      have HhE := Lib.hid hE; clear hE
      have Hhb := Lib.hid hb; clear hb
      have Hhok := Lib.hid hok; clear hok
      have Hhbl := Lib.hid hbl; clear hbl
      have Hhx1 := Lib.hid hx1; clear hx1
      go_enter Try.func47, Try.ntmps47
      go_wp2_with fail
      have hbx : Box lg 1 w (w.setCell ⟨lg, 1, none⟩ (.int .u32 ((x.gen : Int) + 1))) := (Box.refl _ _ _).setCell (by omega) (by omega) _
      have hL1 : LogAt (w.setCell ⟨lg, 1, none⟩ (.int .u32 ((x.gen : Int) + 1))) base g lg r { x with gen := x.gen + 1 } := Hh.out.put hbx rfl (by rw [row_setCell Hh.out.blk]; simp) Hhx1.out
      have hlb : lg < w.heap.size := lt_of_block Hh.out.blk
      have R1 : Rd (w.setCell ⟨lg, 1, none⟩ (.int .u32 ((x.gen : Int) + 1))) (w.setCell ⟨lg, 1, none⟩ (.int .u32 ((x.gen : Int) + 1))).heap.size 1 A n (bv b) := by
        refine ⟨Hhb.out.1, fun hp => ?_⟩
        obtain ⟨q, off, e, hlt, hc⟩ := Hhb.out.2 hp
        have hne : q ≠ lg := Rd.apart Hhb.out (Hh.out.noB lg (by omega) (by omega)) (by have := Hhbl.out; simp at hp; omega) (by rw [e]; rfl)
        exact ⟨q, off, e, by rw [hbx.size]; exact hlt, fun j hj => (World.cell?_of_block (a := ⟨q, off + j, none⟩) (hbx.block q (by omega))).trans (hc j hj)⟩
      have ho1 : OnlyL g lg r w (w.setCell ⟨lg, 1, none⟩ (.int .u32 ((x.gen : Int) + 1))) := (OnlyL.of_below (Below.refl _ _)).box hbx
      have hsz1 := hbx.size
      generalize w.setCell ⟨lg, 1, none⟩ (.int .u32 ((x.gen : Int) + 1)) = W1 at *
      have hgm : IntKind.i64.wrap (((x.gen : Int) + 1).tmod 2) = ((((x.gen + 1) % 2 : Nat)) : Int) := by
        rw [Int.tmod_eq_emod_of_nonneg (by omega), show ((x.gen : Int) + 1) % 2 = ((((x.gen + 1) % 2 : Nat)) : Int) by omega]
        exact IntWalk.i64_in _ (by omega)
      have I : ∀ W : World, Rd W W.heap.size 1 A n (bv b) → Calls Try.prog 38 #[.int .u32 ((x.gen : Int) + 1), .slice A n c] W (RetB (frameL (x.gen + 1) b) W) := fun W hW => by
        have := image_any A n c (x.gen + 1) b W hW hn hg1
        rwa [show ((x.gen + 1 : Nat) : Int) = (x.gen : Int) + 1 by omega] at this
      have hfl : (frameL (x.gen + 1) b).length ≤ 200000000 := by
        have := Hhbl.out
        have h10 := uintL_len10 b.length (by omega)
        rw [frameL_len, textL_len]
        omega
      clear c0 c1 c2 f0 f1 f2
      have HhL1 := Lib.hid hL1; clear hL1
      have HR1 := Lib.hid R1; clear R1
      have Hho1 := Lib.hid ho1; clear ho1
      have Hhgm := Lib.hid hgm; clear hgm
      refine wp_region_schedB [lg] [(0, true), (1, true), (2, true), (3, true), (4, true), (5, true), (6, true), (7, true), (8, true), (9, true), (10, true), (11, true), (12, true), (13, true), (14, true), (15, false), (16, false)] (by kernel_rfl) (by kernel_rfl) (fun _ _ d _ _ h => by cases d <;> exact h) ?_
      refine bwith (fun W hW => (cells3 (hW.one HhL1.out.blk)).1) (fun q => ?_)
      repeat (first | (refine sreadxB rfl rfl ?_; apply Exists.intro; apply And.intro; (· (intro W hW; first | (go_simp; done) | (go_simp; with_reducible rfl) | (go_simp; rw [if_neg (by omega)]; done) | (go_simp; rw [if_neg (by omega)]; with_reducible rfl))); simp only [Act.put, List.setIfInBounds_toArray, List.set_cons_zero, List.set_cons_succ]) | (refine bskip rfl rfl ?_; simp only [Act.put, List.setIfInBounds_toArray, List.set_cons_zero, List.set_cons_succ]))
      refine KB.lay (w0 := W1) (Below.refl _ _).drew (fun B0 => ?_)
      have hlW : ∀ k ∈ [lg], k < W1.drew.heap.size := fun k hk => by
        have h1 : W1.drew.heap.size = W1.heap.size := rfl
        simp at hk
        omega
      refine bcall rfl rfl (fun K hK => ?_)
      go_simp
      refine (I _ (HR1.out.next B0)).mono ?_; rintro e w2 ⟨A2, n2, c2, rfl, q2, b2⟩
      go_wp2_with fail
      refine hK.out _ _ (by exact KB.of_below b2 hlW) ?_
      clear hK K
      try simp only [Act.put, List.setIfInBounds_toArray, List.set_cons_zero, List.set_cons_succ]
      have B2 := bthen B0 b2
      have hL2 := HhL1.out.below B2
      have hn2 := own_len q2
      refine bcall rfl rfl (fun K hK => ?_)
      go_simp
      rw [Hhgm.out]; refine (write_any hL2.disk _ A2 n2 c2 (frameL (x.gen + 1) b) (Rd.of_own q2) (by omega)).mono ?_; rintro e w3 ⟨rfl, t3⟩
      go_wp2_with fail
      refine hK.out _ _ (by exact fun k hk => t3.1.block k (by have := lt_of_block hL2.blk; simp at hk; omega) (by simp at hk; rw [hk]; exact hL2.lgg) (by simp at hk; rw [hk]; exact hL2.lgr)) ?_
      clear hK K
      try simp only [Act.put, List.setIfInBounds_toArray, List.set_cons_zero, List.set_cons_succ]
      refine bdone ?_
      obtain ⟨o3', r3, l3, n3⟩ := hL2.turned t3 (LS.write_ok hL2.ok _ _)
      obtain ⟨⟨d0, d1, d2⟩, e0, e1, e2⟩ := log_cells l3
      clear q hgb
      have Ht3 := Lib.hid t3; clear t3
      have Hq2 := Lib.hid q2; clear q2
      have HhL2 := Lib.hid hL2; clear hL2
      have Hb2 := Lib.hid b2; clear b2
      have Ho3' := Lib.hid o3'; clear o3'
      have Hn3 := Lib.hid n3; clear n3
      have HI := Lib.hid I; clear I
      have Hl3 := Lib.hid l3; clear l3
      go_wp2_with fail
      refine (sync_any Hl3.out.disk).mono ?_; rintro e w4 ⟨rfl, t4⟩
      obtain ⟨o4', r4, l4, n4⟩ := Hl3.out.turned t4 (LS.sync_ok Hl3.out.ok)
      clear d0 d1 d2 e0 e1 e2
      obtain ⟨⟨d0, d1, d2⟩, e0, e1, e2⟩ := log_cells l4
      have Ht4 := Lib.hid t4; clear t4
      have Ho4' := Lib.hid o4'; clear o4'
      have Hn4 := Lib.hid n4; clear n4
      have Hl4 := Lib.hid l4; clear l4
      go_wp2_with fail
      refine (clear_any Hl4.out.disk).mono ?_; rintro e w5 ⟨rfl, t5⟩
      have T5 := Hl4.out.turned t5 (LS.clear_ok Hl4.out.ok)
      clear d0 d1 d2 e0 e1 e2
      have Ht5 := Lib.hid t5; clear t5
      have HT5 := Lib.hid T5; clear T5
      go_wp2_with fail
      go_ret
      refine ⟨rfl, ?_⟩
      have T4 := TurnedL.trans (x1 := x) Ho4'.out Hn4.out HT5.out
      have T3 := TurnedL.trans (x1 := x) Ho3'.out Hn3.out T4
      have T2 := TurnedL.trans (x1 := x) (.of_below B2) (.inl rfl) T3
      exact TurnedL.trans (x1 := x) Hho1.out (.inl rfl) T2
end Go.Proofs.Ytkcehoejcklmfaa.L
