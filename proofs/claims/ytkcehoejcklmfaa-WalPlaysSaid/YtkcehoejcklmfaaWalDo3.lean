/- billhooklaw04's do: what is kept, what is let go, syncs, crashes. -/
import Derived.Test.YtkcehoejcklmfaaWalDo2
namespace Go.Proofs.Ytkcehoejcklmfaa.L
open Go.RowKit O D K




theorem LRefAt.two {w : World} {g : Nat} {r : Option Nat} {x : LS} {A A' : Option Addr} {c c' : Nat} (h : LRefAt w g r (.agg (lc x A c A' c')) x) : Two w g r A x.s.n0 x.s.n1 ∧ Two w g r A' x.s.s0 x.s.s1 := by
  obtain ⟨Z, z, Z', z', e, h1, h2⟩ := h
  injection e with e
  simp at e
  obtain ⟨⟨rfl, rfl⟩, rfl, rfl⟩ := e
  exact ⟨h1, h2⟩
theorem LRefAt.same {w : World} {g : Nat} {r : Option Nat} {x y : LS} {A A' : Option Addr} {c c' : Nat} (h : LRefAt w g r (.agg (lc x A c A' c')) x) (e : y.s = x.s) : LRefAt w g r (.agg (lc y A c A' c')) y := by
  obtain ⟨h1, h2⟩ := h.two
  exact ⟨A, c, A', c', rfl, by rw [e]; exact h1, by rw [e]; exact h2⟩
theorem DoI.kept {w W : World} {base g lg lg' : Nat} {r r' : Option Nat} {os : Array Value} {x y : LS} {A A' : Option Addr} {c c' : Nat} (h : DoI w base g lg r (lc x A c A' c') os y lg' r' W) (hv : LRefAt W g r' (.agg (lc x A c A' c')) x) (es : y.s = x.s) (eg : y.gen = x.gen) :
    DoI w base g lg r (lc y A c A' c') os y lg' r' (W.setCell ⟨w.heap.size, 6, none⟩ (.int .i64 (y.kept : Int))) ∧ LRefAt (W.setCell ⟨w.heap.size, 6, none⟩ (.int .i64 (y.kept : Int))) g r' (.agg (lc y A c A' c')) y := by
  have hb : Box w.heap.size 1 W (W.setCell ⟨w.heap.size, 6, none⟩ (.int .i64 (y.kept : Int))) := (Box.refl _ _ _).setCell (by omega) (by omega) _
  have hN : ∀ k, w.heap.size ≤ k → k < w.heap.size + 1 → NoB W k := fun k h1 h2 => by
    obtain rfl : k = w.heap.size := by omega
    exact ⟨_, _, h.X, by simp [noU8], by decide⟩
  refine ⟨h.boxX hb (by simp [noU8]) ?_, (hv.same es).box hb hN⟩
  rw [row_setCell h.X]
  unfold lc
  rw [es, eg]
  rfl

set_option maxRecDepth 100000 in
set_option maxHeartbeats 2000000 in
theorem do4_3 {w : World} {base g lg : Nat} {r : Option Nat} {x : LS} {v : Value} (kd : Nat) (nn : Int) (b : List UInt8) (A : Option Addr) (m c : Nat) (hl : LogAt w base g lg r x) (hv : LRefAt w g r v x) (hbase : base ≤ w.heap.size) (hb : Rd w base 1 A m (bv b)) (hm : m ≤ 1000) (hsm : Small x.s) (hq : kd % 8 = 3) :
    Calls Try.prog 56 #[ptr g, ptr lg, v, .agg #[.int .u64 (kd : Int), .int .i64 nn, .slice A m c]] w (LDoPost base g lg r (x.keep nn).1 w) := by
  have hbl : b.length = m := by have := hb.1; simp at this; omega
  have t2 : ((kd : Int) % 8 == 2) = false := by simp; omega
  have t3 : ((kd : Int) % 8 == 3) = true := by simp; omega
  have hfr : x.free ≤ 1048576 := by have := hl.ok.1.1; unfold LS.free; omega
  have hkp : x.kept + x.free ≤ 1048576 := by have h1 := hl.ok.1.1; have h2 := hl.ok.2.2; unfold LS.free; omega
  by_cases hn : nn < 0
  · have hE : x.keep nn = (x, 1) := by unfold LS.keep; rw [if_pos hn]
    obtain ⟨A1, c1, A1', c1', rfl, z1, z2⟩ := hv
    have hlo := hl.ok
    have HV := Lib.hid (show LRefAt w g r (.agg (lc x A1 c1 A1' c1')) x from ⟨A1, c1, A1', c1', rfl, z1, z2⟩)
    have D0 := Lib.hid (DoI.start hl (lc x A1 c1 A1' c1') #[.int .u64 (kd : Int), .int .i64 nn, .slice A m c])
    have hg0 := hl.disk.lt.1
    have hlb := hl.lgb
    have hrb := fun k hk => (hl.disk.lt.2.2 k hk).1
    have bb0 := D0.out.only.below hg0 hlb hrb hbase
    have HB0 := Lib.hid (hb.below bb0)
    have HB := Lib.hid hb
    have HL := Lib.hid hl
    have HRB := Lib.hid hrb
    have HLO := Lib.hid hlo
    clear hl hb z1 z2 bb0 hrb hlo
    have Hhq := Lib.hid hq; clear hq
    go_enter Try.func56, Try.ntmps56
    go_wp2_with fail
    refine (lkeep_any nn D0.out.log).mono ?_; rintro e w1 ⟨rfl, t1⟩
    obtain ⟨r1, D1, o1, n1⟩ := D0.out.turned t1
    have hv1 := ((HV.out.below (DoI.start_below w (lc x A1 c1 A1' c1') #[.int .u64 (kd : Int), .int .i64 nn, .slice A m c])).onlyL D0.out.log o1 n1)
    have HD1 := Lib.hid D1; clear D1
    have Hhv1 := Lib.hid hv1; clear hv1
    have D1 := HD1; clear HD1
    have bb1 := D1.out.only.below hg0 hlb HRB.out hbase
    clear t1 o1 n1 D0
    obtain ⟨⟨a0, a1, a2, a3, a4, a5, a6⟩, u0, u1, u2, u3, u4, u5, u6⟩ := cells7 D1.out.X
    obtain ⟨⟨p0, p1, p2⟩, -⟩ := cells3 D1.out.O
    obtain ⟨⟨d0, d1, d2, d3, d4, d5, d6⟩, e0, e1, e2, e3, e4, e5, e6⟩ := cells7 D1.out.Z
    rw [hE] at D1 ⊢
    go_upto_region 30 with fail
    have Y8 := Hhv1
    have D8 := Lib.hid D1.out
    clear D1
    have D1 := D8
    clear D8
    clear a0 a1 a2 a3 a4 a5 a6 u0 u1 u2 u3 u4 u5 u6 p0 p1 p2 d0 d1 d2 d3 d4 d5 d6 e0 e1 e2 e3 e4 e5 e6
    obtain ⟨⟨a0, a1, a2, a3, a4, a5, a6⟩, u0, u1, u2, u3, u4, u5, u6⟩ := cells7 D1.out.X
    obtain ⟨⟨p0, p1, p2⟩, -⟩ := cells3 D1.out.O
    obtain ⟨⟨d0, d1, d2, d3, d4, d5, d6⟩, e0, e1, e2, e3, e4, e5, e6⟩ := cells7 D1.out.Z
    go_region
    go_wp2_with fail
    refine bodyPost_ret (v := .tuple #[ptr lg, .agg (lc x A1 c1 A1' c1'), .bool true]) (by simp [results, Try.results56, go_sem, d0, d1, d2, d3, d4, d5, d6]) rfl ?_
    (try rw [hE])
    refine D1.out.fin ?_ Y8.out (by simp [noU8]) (by simp [noU8])
    repeat (first | (with_reducible exact Box.refl _ _ _) | ((with_reducible refine Box.setCell ?_ ?_ ?_ _); rotate_left; (· omega); (· omega)) | (with_reducible refine Box.drew ?_))
  · have hd1 : decide (nn < 0) = false := by simp; omega
    by_cases hf : (x.free : Int) < nn
    · have hE : x.keep nn = (x, 5) := by unfold LS.keep; rw [if_neg hn, if_pos hf]
      have hd2 : decide (nn > (x.free : Int)) = true := by simp; omega
      have hd3 : decide ((x.free : Int) < nn) = true := by simp; omega
      obtain ⟨A1, c1, A1', c1', rfl, z1, z2⟩ := hv
      have hlo := hl.ok
      have HV := Lib.hid (show LRefAt w g r (.agg (lc x A1 c1 A1' c1')) x from ⟨A1, c1, A1', c1', rfl, z1, z2⟩)
      have D0 := Lib.hid (DoI.start hl (lc x A1 c1 A1' c1') #[.int .u64 (kd : Int), .int .i64 nn, .slice A m c])
      have hg0 := hl.disk.lt.1
      have hlb := hl.lgb
      have hrb := fun k hk => (hl.disk.lt.2.2 k hk).1
      have bb0 := D0.out.only.below hg0 hlb hrb hbase
      have HB0 := Lib.hid (hb.below bb0)
      have HB := Lib.hid hb
      have HL := Lib.hid hl
      have HRB := Lib.hid hrb
      have HLO := Lib.hid hlo
      clear hl hb z1 z2 bb0 hrb hlo
      have Hhq := Lib.hid hq; clear hq
      go_enter Try.func56, Try.ntmps56
      go_wp2_with fail
      refine (lkeep_any nn D0.out.log).mono ?_; rintro e w1 ⟨rfl, t1⟩
      obtain ⟨r1, D1, o1, n1⟩ := D0.out.turned t1
      have hv1 := ((HV.out.below (DoI.start_below w (lc x A1 c1 A1' c1') #[.int .u64 (kd : Int), .int .i64 nn, .slice A m c])).onlyL D0.out.log o1 n1)
      have HD1 := Lib.hid D1; clear D1
      have Hhv1 := Lib.hid hv1; clear hv1
      have D1 := HD1; clear HD1
      have bb1 := D1.out.only.below hg0 hlb HRB.out hbase
      clear t1 o1 n1 D0
      obtain ⟨⟨a0, a1, a2, a3, a4, a5, a6⟩, u0, u1, u2, u3, u4, u5, u6⟩ := cells7 D1.out.X
      obtain ⟨⟨p0, p1, p2⟩, -⟩ := cells3 D1.out.O
      obtain ⟨⟨d0, d1, d2, d3, d4, d5, d6⟩, e0, e1, e2, e3, e4, e5, e6⟩ := cells7 D1.out.Z
      rw [hE] at D1 ⊢
      go_upto_region 13 with fail
      refine wp_region_sched [(0, true), (1, true), (2, true), (3, false), (4, true)] (by kernel_rfl) (by kernel_rfl) (fun _ _ d _ _ h => by cases d <;> exact h) ?_
      refine sbelow (w0 := w1) (Below.refl _ _).drew (fun B0 => ?_)
      refine swith (fun W hW => (cells7 (D1.out.next (bthen B0 hW.out)).X).1) (fun q => ?_)
      refine swith (fun W hW => (cells3 (D1.out.next (bthen B0 hW.out)).O).1) (fun qo => ?_)
      repeat (first | (refine sreadx rfl rfl ?_; apply Exists.intro; apply And.intro; (· (intro W hW; first | (go_simp; done) | (go_simp; with_reducible rfl) | (go_simp; rw [if_neg (by omega)]; done) | (go_simp; rw [if_neg (by omega)]; with_reducible rfl))); simp only [Act.put, List.setIfInBounds_toArray, List.set_cons_zero, List.set_cons_succ]) | (refine sskip rfl rfl ?_; simp only [Act.put, List.setIfInBounds_toArray, List.set_cons_zero, List.set_cons_succ]))
      refine scall rfl rfl (fun K hK => ?_)
      go_simp
      refine (rlfree_any (Hhv1.out.below B0) HLO.out).mono ?_; rintro e w2 ⟨rfl, b2⟩
      go_wp2_with fail
      refine hK.out _ _ (by exact b2) ?_
      clear hK K
      try simp only [Act.put, List.setIfInBounds_toArray, List.set_cons_zero, List.set_cons_succ]
      replace q := fun (W : World) (hW : Grow w2 W) => q W (Grow.trans (b2) hW)
      replace qo := fun (W : World) (hW : Grow w2 W) => qo W (Grow.trans (b2) hW)
      have B2 := bthen B0 b2
      repeat (first | (refine sreadx rfl rfl ?_; apply Exists.intro; apply And.intro; (· (intro W hW; first | (go_simp; done) | (go_simp; with_reducible rfl) | (go_simp; rw [if_neg (by omega)]; done) | (go_simp; rw [if_neg (by omega)]; with_reducible rfl))); simp only [Act.put, List.setIfInBounds_toArray, List.set_cons_zero, List.set_cons_succ]) | (refine sskip rfl rfl ?_; simp only [Act.put, List.setIfInBounds_toArray, List.set_cons_zero, List.set_cons_succ]))
      refine sdone ?_
      clear q qo b2 B0
      have D2 := Lib.hid (D1.out.next B2)
      have Y8 := Lib.hid (Hhv1.out.below B2)
      clear D1 Hhv1
      have D1 := D2; clear D2
      go_upto_region 30 with fail
      have D8 := Lib.hid D1.out
      clear D1
      have D1 := D8
      clear D8
      clear a0 a1 a2 a3 a4 a5 a6 u0 u1 u2 u3 u4 u5 u6 p0 p1 p2 d0 d1 d2 d3 d4 d5 d6 e0 e1 e2 e3 e4 e5 e6
      obtain ⟨⟨a0, a1, a2, a3, a4, a5, a6⟩, u0, u1, u2, u3, u4, u5, u6⟩ := cells7 D1.out.X
      obtain ⟨⟨p0, p1, p2⟩, -⟩ := cells3 D1.out.O
      obtain ⟨⟨d0, d1, d2, d3, d4, d5, d6⟩, e0, e1, e2, e3, e4, e5, e6⟩ := cells7 D1.out.Z
      go_region
      go_wp2_with fail
      refine bodyPost_ret (v := .tuple #[ptr lg, .agg (lc x A1 c1 A1' c1'), .bool true]) (by simp [results, Try.results56, go_sem, d0, d1, d2, d3, d4, d5, d6]) rfl ?_
      (try rw [hE])
      refine D1.out.fin ?_ Y8.out (by simp [noU8]) (by simp [noU8])
      repeat (first | (with_reducible exact Box.refl _ _ _) | ((with_reducible refine Box.setCell ?_ ?_ ?_ _); rotate_left; (· omega); (· omega)) | (with_reducible refine Box.drew ?_))
    · obtain ⟨k, hnk⟩ := Int.eq_ofNat_of_zero_le (show 0 ≤ nn by omega)
      have hE : x.keep nn = ({ x with kept := x.kept + k }, 0) := by unfold LS.keep; rw [if_neg hn, if_neg hf, hnk]; simp
      have hd2 : decide (nn > (x.free : Int)) = false := by simp; omega
      have hd3 : decide ((x.free : Int) < nn) = false := by simp; omega
      have hkk : (x.kept : Int) + nn = ((x.kept + k : Nat) : Int) := by omega
      have hkw : IntKind.i64.wrap ((x.kept : Int) + nn) = ((x.kept + k : Nat) : Int) := by rw [hkk]; exact IntWalk.i64_in _ (by omega)
      have HKW := Lib.hid hkw; clear hkw
      have HK := Lib.hid hkk; clear hkk
      have HNK := Lib.hid hnk; clear hnk
      obtain ⟨A1, c1, A1', c1', rfl, z1, z2⟩ := hv
      have hlo := hl.ok
      have HV := Lib.hid (show LRefAt w g r (.agg (lc x A1 c1 A1' c1')) x from ⟨A1, c1, A1', c1', rfl, z1, z2⟩)
      have D0 := Lib.hid (DoI.start hl (lc x A1 c1 A1' c1') #[.int .u64 (kd : Int), .int .i64 nn, .slice A m c])
      have hg0 := hl.disk.lt.1
      have hlb := hl.lgb
      have hrb := fun k hk => (hl.disk.lt.2.2 k hk).1
      have bb0 := D0.out.only.below hg0 hlb hrb hbase
      have HB0 := Lib.hid (hb.below bb0)
      have HB := Lib.hid hb
      have HL := Lib.hid hl
      have HRB := Lib.hid hrb
      have HLO := Lib.hid hlo
      clear hl hb z1 z2 bb0 hrb hlo
      have Hhq := Lib.hid hq; clear hq
      go_enter Try.func56, Try.ntmps56
      go_wp2_with fail
      refine (lkeep_any nn D0.out.log).mono ?_; rintro e w1 ⟨rfl, t1⟩
      obtain ⟨r1, D1, o1, n1⟩ := D0.out.turned t1
      have hv1 := ((HV.out.below (DoI.start_below w (lc x A1 c1 A1' c1') #[.int .u64 (kd : Int), .int .i64 nn, .slice A m c])).onlyL D0.out.log o1 n1)
      have HD1 := Lib.hid D1; clear D1
      have Hhv1 := Lib.hid hv1; clear hv1
      have D1 := HD1; clear HD1
      have bb1 := D1.out.only.below hg0 hlb HRB.out hbase
      clear t1 o1 n1 D0
      obtain ⟨⟨a0, a1, a2, a3, a4, a5, a6⟩, u0, u1, u2, u3, u4, u5, u6⟩ := cells7 D1.out.X
      obtain ⟨⟨p0, p1, p2⟩, -⟩ := cells3 D1.out.O
      obtain ⟨⟨d0, d1, d2, d3, d4, d5, d6⟩, e0, e1, e2, e3, e4, e5, e6⟩ := cells7 D1.out.Z
      rw [hE] at D1 ⊢
      change Hid (DoI _ _ _ _ _ _ _ { x with kept := x.kept + k } _ _ _) at D1
      go_upto_region 13 with fail
      refine wp_region_sched [(0, true), (1, true), (2, true), (3, false), (4, true)] (by kernel_rfl) (by kernel_rfl) (fun _ _ d _ _ h => by cases d <;> exact h) ?_
      refine sbelow (w0 := w1) (Below.refl _ _).drew (fun B0 => ?_)
      refine swith (fun W hW => (cells7 (D1.out.next (bthen B0 hW.out)).X).1) (fun q => ?_)
      refine swith (fun W hW => (cells3 (D1.out.next (bthen B0 hW.out)).O).1) (fun qo => ?_)
      repeat (first | (refine sreadx rfl rfl ?_; apply Exists.intro; apply And.intro; (· (intro W hW; first | (go_simp; done) | (go_simp; with_reducible rfl) | (go_simp; rw [if_neg (by omega)]; done) | (go_simp; rw [if_neg (by omega)]; with_reducible rfl))); simp only [Act.put, List.setIfInBounds_toArray, List.set_cons_zero, List.set_cons_succ]) | (refine sskip rfl rfl ?_; simp only [Act.put, List.setIfInBounds_toArray, List.set_cons_zero, List.set_cons_succ]))
      refine scall rfl rfl (fun K hK => ?_)
      go_simp
      refine (rlfree_any (Hhv1.out.below B0) HLO.out).mono ?_; rintro e w2 ⟨rfl, b2⟩
      go_wp2_with fail
      refine hK.out _ _ (by exact b2) ?_
      clear hK K
      try simp only [Act.put, List.setIfInBounds_toArray, List.set_cons_zero, List.set_cons_succ]
      replace q := fun (W : World) (hW : Grow w2 W) => q W (Grow.trans (b2) hW)
      replace qo := fun (W : World) (hW : Grow w2 W) => qo W (Grow.trans (b2) hW)
      have B2 := bthen B0 b2
      repeat (first | (refine sreadx rfl rfl ?_; apply Exists.intro; apply And.intro; (· (intro W hW; first | (go_simp; done) | (go_simp; with_reducible rfl) | (go_simp; rw [if_neg (by omega)]; done) | (go_simp; rw [if_neg (by omega)]; with_reducible rfl))); simp only [Act.put, List.setIfInBounds_toArray, List.set_cons_zero, List.set_cons_succ]) | (refine sskip rfl rfl ?_; simp only [Act.put, List.setIfInBounds_toArray, List.set_cons_zero, List.set_cons_succ]))
      refine sdone ?_
      clear q qo b2 B0
      have D2 := Lib.hid (D1.out.next B2)
      have Y2 := Lib.hid (Hhv1.out.below B2)
      clear D1 Hhv1
      have D1 := D2; clear D2
      clear a0 a1 a2 a3 a4 a5 a6 u0 u1 u2 u3 u4 u5 u6 p0 p1 p2 d0 d1 d2 d3 d4 d5 d6 e0 e1 e2 e3 e4 e5 e6
      obtain ⟨⟨a0, a1, a2, a3, a4, a5, a6⟩, u0, u1, u2, u3, u4, u5, u6⟩ := cells7 D1.out.X
      obtain ⟨⟨p0, p1, p2⟩, -⟩ := cells3 D1.out.O
      obtain ⟨⟨d0, d1, d2, d3, d4, d5, d6⟩, e0, e1, e2, e3, e4, e5, e6⟩ := cells7 D1.out.Z
      have hkw := HKW.out
      have DP := Lib.hid (D1.out.kept (y := { x with kept := x.kept + k }) Y2.out rfl rfl)
      go_upto_region 30 with fail
      obtain ⟨w8, hw8⟩ : ∃ w8, w2.setCell ⟨w.heap.size, 6, none⟩ (.int .i64 ((x.kept + k : Nat) : Int)) = w8 := ⟨_, rfl⟩
      have DP := Lib.hid DP.out
      rw [hw8] at DP
      rw [show (x.kept : Int) + (k : Int) = ((x.kept + k : Nat) : Int) by omega, hw8]
      have D1 := Lib.hid DP.out.1
      have Y8 := Lib.hid DP.out.2
      clear hw8 DP
      have D8 := Lib.hid D1.out
      clear D1
      have D1 := D8
      clear D8
      clear a0 a1 a2 a3 a4 a5 a6 u0 u1 u2 u3 u4 u5 u6 p0 p1 p2 d0 d1 d2 d3 d4 d5 d6 e0 e1 e2 e3 e4 e5 e6
      obtain ⟨⟨a0, a1, a2, a3, a4, a5, a6⟩, u0, u1, u2, u3, u4, u5, u6⟩ := cells7 D1.out.X
      obtain ⟨⟨p0, p1, p2⟩, -⟩ := cells3 D1.out.O
      obtain ⟨⟨d0, d1, d2, d3, d4, d5, d6⟩, e0, e1, e2, e3, e4, e5, e6⟩ := cells7 D1.out.Z
      go_region
      go_wp2_with fail
      refine bodyPost_ret (v := .tuple #[ptr lg, .agg (lc { x with kept := x.kept + k } A1 c1 A1' c1'), .bool true]) (by simp [results, Try.results56, go_sem, d0, d1, d2, d3, d4, d5, d6]) rfl ?_
      (try rw [hE])
      refine D1.out.fin ?_ Y8.out (by simp [noU8]) (by simp [noU8])
      repeat (first | (with_reducible exact Box.refl _ _ _) | ((with_reducible refine Box.setCell ?_ ?_ ?_ _); rotate_left; (· omega); (· omega)) | (with_reducible refine Box.drew ?_))

set_option maxRecDepth 100000 in
set_option maxHeartbeats 2000000 in
theorem do4_4 {w : World} {base g lg : Nat} {r : Option Nat} {x : LS} {v : Value} (kd : Nat) (nn : Int) (b : List UInt8) (A : Option Addr) (m c : Nat) (hl : LogAt w base g lg r x) (hv : LRefAt w g r v x) (hbase : base ≤ w.heap.size) (hb : Rd w base 1 A m (bv b)) (hm : m ≤ 1000) (hsm : Small x.s) (hq : kd % 8 = 4) :
    Calls Try.prog 56 #[ptr g, ptr lg, v, .agg #[.int .u64 (kd : Int), .int .i64 nn, .slice A m c]] w (LDoPost base g lg r (x.let_ nn) w) := by
  have hbl : b.length = m := by have := hb.1; simp at this; omega
  have t2 : ((kd : Int) % 8 == 2) = false := by simp; omega
  have t3 : ((kd : Int) % 8 == 3) = false := by simp; omega
  have t4 : ((kd : Int) % 8 == 4) = true := by simp; omega
  obtain ⟨j, hj⟩ : ∃ j : Nat, (j : Int) = max 0 (min nn (x.kept : Int)) := ⟨(max 0 (min nn (x.kept : Int))).toNat, by omega⟩
  have hk1 : x.kept ≤ 1048576 := by have h1 := hl.ok.1.1; have h2 := hl.ok.2.2; omega
  have hjk : j ≤ x.kept := by omega
  have hkw : IntKind.i64.wrap ((x.kept : Int) - max 0 (min nn (x.kept : Int))) = (x.kept : Int) - (j : Int) := by rw [← hj]; exact IntWalk.i64_in _ (by omega)
  have hE : x.let_ nn = { x with kept := x.kept - j } := by unfold LS.let_; congr 1; omega
  have HJ := Lib.hid hj; clear hj
  have HE := Lib.hid hE; clear hE
  obtain ⟨A1, c1, A1', c1', rfl, z1, z2⟩ := hv
  have hlo := hl.ok
  have HV := Lib.hid (show LRefAt w g r (.agg (lc x A1 c1 A1' c1')) x from ⟨A1, c1, A1', c1', rfl, z1, z2⟩)
  have D0 := Lib.hid (DoI.start hl (lc x A1 c1 A1' c1') #[.int .u64 (kd : Int), .int .i64 nn, .slice A m c])
  have hg0 := hl.disk.lt.1
  have hlb := hl.lgb
  have hrb := fun k hk => (hl.disk.lt.2.2 k hk).1
  have bb0 := D0.out.only.below hg0 hlb hrb hbase
  have HB0 := Lib.hid (hb.below bb0)
  have HB := Lib.hid hb
  have HL := Lib.hid hl
  have HRB := Lib.hid hrb
  have HLO := Lib.hid hlo
  clear hl hb z1 z2 bb0 hrb hlo
  have Hhq := Lib.hid hq; clear hq
  go_enter Try.func56, Try.ntmps56
  go_wp2_with fail
  refine (llet_any nn D0.out.log).mono ?_; rintro e w1 ⟨rfl, t1⟩
  obtain ⟨r1, D1, o1, n1⟩ := D0.out.turned t1
  have hv1 := ((HV.out.below (DoI.start_below w (lc x A1 c1 A1' c1') #[.int .u64 (kd : Int), .int .i64 nn, .slice A m c])).onlyL D0.out.log o1 n1)
  have HD1 := Lib.hid D1; clear D1
  have Hhv1 := Lib.hid hv1; clear hv1
  have D1 := HD1; clear HD1
  have bb1 := D1.out.only.below hg0 hlb HRB.out hbase
  clear t1 o1 n1 D0
  obtain ⟨⟨a0, a1, a2, a3, a4, a5, a6⟩, u0, u1, u2, u3, u4, u5, u6⟩ := cells7 D1.out.X
  obtain ⟨⟨p0, p1, p2⟩, -⟩ := cells3 D1.out.O
  obtain ⟨⟨d0, d1, d2, d3, d4, d5, d6⟩, e0, e1, e2, e3, e4, e5, e6⟩ := cells7 D1.out.Z
  rw [HE.out] at D1
  have DP := Lib.hid (D1.out.kept (y := { x with kept := x.kept - j }) Hhv1.out rfl rfl)
  go_upto_region 30 with fail
  obtain ⟨w8, hw8⟩ : ∃ w8, w1.setCell ⟨w.heap.size, 6, none⟩ (.int .i64 ((x.kept - j : Nat) : Int)) = w8 := ⟨_, rfl⟩
  have DP := Lib.hid DP.out
  rw [hw8] at DP
  rw [show (x.kept : Int) - (j : Int) = ((x.kept - j : Nat) : Int) by omega, hw8]
  have D1 := Lib.hid DP.out.1
  have Y8 := Lib.hid DP.out.2
  clear hw8 DP
  have hE := HE.out
  have D8 := Lib.hid D1.out
  clear D1
  have D1 := D8
  clear D8
  clear a0 a1 a2 a3 a4 a5 a6 u0 u1 u2 u3 u4 u5 u6 p0 p1 p2 d0 d1 d2 d3 d4 d5 d6 e0 e1 e2 e3 e4 e5 e6
  obtain ⟨⟨a0, a1, a2, a3, a4, a5, a6⟩, u0, u1, u2, u3, u4, u5, u6⟩ := cells7 D1.out.X
  obtain ⟨⟨p0, p1, p2⟩, -⟩ := cells3 D1.out.O
  obtain ⟨⟨d0, d1, d2, d3, d4, d5, d6⟩, e0, e1, e2, e3, e4, e5, e6⟩ := cells7 D1.out.Z
  go_region
  go_wp2_with fail
  refine bodyPost_ret (v := .tuple #[ptr lg, .agg (lc { x with kept := x.kept - j } A1 c1 A1' c1'), .bool true]) (by simp [results, Try.results56, go_sem, d0, d1, d2, d3, d4, d5, d6]) rfl ?_
  (try rw [hE])
  refine D1.out.fin ?_ Y8.out (by simp [noU8]) (by simp [noU8])
  repeat (first | (with_reducible exact Box.refl _ _ _) | ((with_reducible refine Box.setCell ?_ ?_ ?_ _); rotate_left; (· omega); (· omega)) | (with_reducible refine Box.drew ?_))

theorem LRefAt.ref {w : World} {g : Nat} {r : Option Nat} {x : LS} {A A' : Option Addr} {c c' : Nat} (h : LRefAt w g r (.agg (lc x A c A' c')) x) : RefAt w g r (.agg #[.int .i64 (x.s.room : Int), str x.s.sure, str x.s.rest, .slice A 2 c, .slice A' 2 c']) x.s := by
  obtain ⟨h1, h2⟩ := h.two
  exact ⟨A, c, A', c', rfl, h1, h2⟩
abbrev put5 (W : World) (b : Nat) (s : St) (A : Option Addr) (c : Nat) (A' : Option Addr) (c' : Nat) : World := (((((W.setCell ⟨b, 0, none⟩ (.int .i64 (s.room : Int))).setCell ⟨b, 1, none⟩ (str s.sure)).setCell ⟨b, 2, none⟩ (str s.rest)).setCell ⟨b, 3, none⟩ (.slice A 2 c)).setCell ⟨b, 4, none⟩ (.slice A' 2 c'))
theorem DoI.putD {w W : World} {base g lg lg' : Nat} {r r' : Option Nat} {os : Array Value} {x y : LS} {B A B' A' : Option Addr} {d c d' c' : Nat} (h : DoI w base g lg r (lc x B d B' d') os y lg' r' W) (eg : y.gen = x.gen) (ek : y.kept = x.kept) (hv : RefAt W g r' (.agg #[.int .i64 (y.s.room : Int), str y.s.sure, str y.s.rest, .slice A 2 c, .slice A' 2 c']) y.s) :
    DoI w base g lg r (lc y A c A' c') os y lg' r' (put5 W w.heap.size y.s A c A' c') ∧ LRefAt (put5 W w.heap.size y.s A c A' c') g r' (.agg (lc y A c A' c')) y := by
  have hb : Box w.heap.size 1 W (put5 W w.heap.size y.s A c A' c') :=
    (((((Box.refl _ _ _).setCell (by omega) (by omega) _).setCell (by omega) (by omega) _).setCell (by omega) (by omega) _).setCell (by omega) (by omega) _).setCell (by omega) (by omega) _
  have hN : ∀ k, w.heap.size ≤ k → k < w.heap.size + 1 → NoB W k := fun k h1 h2 => by
    obtain rfl : k = w.heap.size := by omega
    exact ⟨_, _, h.X, by simp [noU8], by decide⟩
  obtain ⟨Z, z, Z', z', e, h1, h2⟩ := hv
  injection e with e
  simp at e
  obtain ⟨⟨rfl, rfl⟩, rfl, rfl⟩ := e
  refine ⟨h.boxX hb (by simp [noU8]) ?_, ⟨A, c, A', c', rfl, h1.box hb hN, h2.box hb hN⟩⟩
  unfold put5
  rw [row_setCell (row_setCell (row_setCell (row_setCell (row_setCell h.X))))]
  unfold lc
  rw [eg, ek]
  rfl

set_option maxRecDepth 100000 in
set_option maxHeartbeats 2000000 in
theorem do4_5 {w : World} {base g lg : Nat} {r : Option Nat} {x : LS} {v : Value} (kd : Nat) (nn : Int) (b : List UInt8) (A : Option Addr) (m c : Nat) (hl : LogAt w base g lg r x) (hv : LRefAt w g r v x) (hbase : base ≤ w.heap.size) (hb : Rd w base 1 A m (bv b)) (hm : m ≤ 1000) (hsm : Small x.s) (hq : kd % 8 = 5) :
    Calls Try.prog 56 #[ptr g, ptr lg, v, .agg #[.int .u64 (kd : Int), .int .i64 nn, .slice A m c]] w (LDoPost base g lg r x.sync w) := by
  have hbl : b.length = m := by have := hb.1; simp at this; omega
  have t2 : ((kd : Int) % 8 == 2) = false := by simp; omega
  have t3 : ((kd : Int) % 8 == 3) = false := by simp; omega
  have t4 : ((kd : Int) % 8 == 4) = false := by simp; omega
  have t5 : ((kd : Int) % 8 == 5) = true := by simp; omega
  obtain ⟨A1, c1, A1', c1', rfl, z1, z2⟩ := hv
  have hlo := hl.ok
  have HV := Lib.hid (show LRefAt w g r (.agg (lc x A1 c1 A1' c1')) x from ⟨A1, c1, A1', c1', rfl, z1, z2⟩)
  have D0 := Lib.hid (DoI.start hl (lc x A1 c1 A1' c1') #[.int .u64 (kd : Int), .int .i64 nn, .slice A m c])
  have hg0 := hl.disk.lt.1
  have hlb := hl.lgb
  have hrb := fun k hk => (hl.disk.lt.2.2 k hk).1
  have bb0 := D0.out.only.below hg0 hlb hrb hbase
  have HB0 := Lib.hid (hb.below bb0)
  have HB := Lib.hid hb
  have HL := Lib.hid hl
  have HRB := Lib.hid hrb
  have HLO := Lib.hid hlo
  clear hl hb z1 z2 bb0 hrb hlo
  have Hhq := Lib.hid hq; clear hq
  go_enter Try.func56, Try.ntmps56
  go_wp2_with fail
  refine (lsync_any D0.out.log).mono ?_; rintro e w1 ⟨rfl, t1⟩
  obtain ⟨r1, D1, o1, n1⟩ := D0.out.turned t1
  have hv1 := ((HV.out.below (DoI.start_below w (lc x A1 c1 A1' c1') #[.int .u64 (kd : Int), .int .i64 nn, .slice A m c])).onlyL D0.out.log o1 n1)
  have HD1 := Lib.hid D1; clear D1
  have Hhv1 := Lib.hid hv1; clear hv1
  have D1 := HD1; clear HD1
  have bb1 := D1.out.only.below hg0 hlb HRB.out hbase
  clear t1 o1 n1 D0
  obtain ⟨⟨a0, a1, a2, a3, a4, a5, a6⟩, u0, u1, u2, u3, u4, u5, u6⟩ := cells7 D1.out.X
  obtain ⟨⟨p0, p1, p2⟩, -⟩ := cells3 D1.out.O
  obtain ⟨⟨d0, d1, d2, d3, d4, d5, d6⟩, e0, e1, e2, e3, e4, e5, e6⟩ := cells7 D1.out.Z
  go_wp2_with fail
  refine (rsync_any Hhv1.out.ref HLO.out.1).mono ?_; rintro e w2 ⟨v2, rfl, y2, b2⟩
  have D2 := Lib.hid (D1.out.next b2)
  clear b2 D1
  have Y2 := Lib.hid y2
  obtain ⟨A2, c2, A2', c2', rfl, z1, z2⟩ := y2
  have D1 := D2; clear D2
  clear a0 a1 a2 a3 a4 a5 a6 u0 u1 u2 u3 u4 u5 u6 p0 p1 p2 d0 d1 d2 d3 d4 d5 d6 e0 e1 e2 e3 e4 e5 e6
  obtain ⟨⟨a0, a1, a2, a3, a4, a5, a6⟩, u0, u1, u2, u3, u4, u5, u6⟩ := cells7 D1.out.X
  obtain ⟨⟨p0, p1, p2⟩, -⟩ := cells3 D1.out.O
  obtain ⟨⟨d0, d1, d2, d3, d4, d5, d6⟩, e0, e1, e2, e3, e4, e5, e6⟩ := cells7 D1.out.Z
  clear z1 z2
  obtain ⟨x5, hx5⟩ : ∃ x5, x.sync = x5 := ⟨_, rfl⟩
  have es : x.s.sync = x5.s := by rw [← hx5]; rfl
  have DP := Lib.hid (show _ from (show Hid (DoI _ _ _ _ _ _ _ x5 _ _ _) from hx5 ▸ D1).out.putD (y := x5) (by rw [← hx5]; rfl) (by rw [← hx5]; rfl) (es ▸ Y2.out))
  rw [es]
  have HE := Lib.hid hx5
  clear Y2 es hx5
  go_upto_region 30 with fail
  obtain ⟨w8, hw8⟩ : ∃ w8, (((((w2.setCell ⟨w.heap.size, 0, none⟩ (.int .i64 (x5.s.room : Int))).setCell ⟨w.heap.size, 1, none⟩ (str x5.s.sure)).setCell ⟨w.heap.size, 2, none⟩ (str x5.s.rest)).setCell ⟨w.heap.size, 3, none⟩ (.slice A2 2 c2)).setCell ⟨w.heap.size, 4, none⟩ (.slice A2' 2 c2')) = w8 := ⟨_, rfl⟩
  have DP := Lib.hid DP.out
  unfold put5 at DP
  rw [hw8] at DP ⊢
  have D1 := Lib.hid DP.out.1
  have Y8 := Lib.hid DP.out.2
  clear hw8 DP
  have hE := HE.out
  have D8 := Lib.hid D1.out
  clear D1
  have D1 := D8
  clear D8
  clear a0 a1 a2 a3 a4 a5 a6 u0 u1 u2 u3 u4 u5 u6 p0 p1 p2 d0 d1 d2 d3 d4 d5 d6 e0 e1 e2 e3 e4 e5 e6
  obtain ⟨⟨a0, a1, a2, a3, a4, a5, a6⟩, u0, u1, u2, u3, u4, u5, u6⟩ := cells7 D1.out.X
  obtain ⟨⟨p0, p1, p2⟩, -⟩ := cells3 D1.out.O
  obtain ⟨⟨d0, d1, d2, d3, d4, d5, d6⟩, e0, e1, e2, e3, e4, e5, e6⟩ := cells7 D1.out.Z
  go_region
  go_wp2_with fail
  refine bodyPost_ret (v := .tuple #[ptr lg, .agg (lc x5 A2 c2 A2' c2'), .bool true]) (by simp [results, Try.results56, go_sem, d0, d1, d2, d3, d4, d5, d6]) rfl ?_
  (try rw [hE])
  refine D1.out.fin ?_ Y8.out (by simp [noU8]) (by simp [noU8])
  repeat (first | (with_reducible exact Box.refl _ _ _) | ((with_reducible refine Box.setCell ?_ ?_ ?_ _); rotate_left; (· omega); (· omega)) | (with_reducible refine Box.drew ?_))
end Go.Proofs.Ytkcehoejcklmfaa.L
