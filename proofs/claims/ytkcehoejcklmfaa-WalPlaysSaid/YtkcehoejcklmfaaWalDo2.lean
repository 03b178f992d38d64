/- billhooklaw04's do: one thing is done to the log and to the reference's log. (Printed by gen_waldo.py.) -/
import Derived.Test.YtkcehoejcklmfaaWalDo
import Derived.Test.YtkcehoejcklmfaaWalRef3
namespace Go.Proofs.Ytkcehoejcklmfaa.L
open Go.RowKit O D K



set_option maxRecDepth 100000 in
set_option maxHeartbeats 2000000 in
theorem do4_2 {w : World} {base g lg : Nat} {r : Option Nat} {x : LS} {v : Value} (kd : Nat) (nn : Int) (b : List UInt8) (A : Option Addr) (m c : Nat) (hl : LogAt w base g lg r x) (hv : LRefAt w g r v x) (hbase : base ≤ w.heap.size) (hb : Rd w base 1 A m (bv b)) (hm : m ≤ 1000) (hsm : Small x.s) (hq : kd % 8 = 2) :
    Calls Try.prog 56 #[ptr g, ptr lg, v, .agg #[.int .u64 (kd : Int), .int .i64 nn, .slice A m c]] w (LDoPost base g lg r (x.addKept b).1 w) := by
  have hbl : b.length = m := by have := hb.1; simp at this; omega
  have t2 : ((kd : Int) % 8 == 2) = true := by simp; omega
  obtain ⟨A1, c1, A1', c1', rfl, z1, z2⟩ := hv
  have hlo := hl.ok
  have HV := Lib.hid (show LRefAt w g r (.agg (lc x A1 c1 A1' c1')) x from ⟨A1, c1, A1', c1', rfl, z1, z2⟩)
  have D0 := Lib.hid (DoI.start hl (lc x A1 c1 A1' c1') #[.int .u64 (kd : Int), .int .i64 nn, .slice A m c])
  have hg0 := hl.disk.lt.1
  have hlb := hl.lgb
  have hrb := fun k hk => (hl.disk.lt.2.2 k hk).1
  have bb0 := D0.out.only.below hg0 hlb hrb hbase
  have HB0 := Lib.hid (hb.below bb0)
  have HB := Lib.hid hb
  have HL := Lib.hid hl
  have HRB := Lib.hid hrb
  have HLO := Lib.hid hlo
  clear hl hb z1 z2 bb0 hrb hlo
  have Hhq := Lib.hid hq; clear hq
  go_enter Try.func56, Try.ntmps56
  go_wp2_with fail
  refine (laddKept_any A m c b D0.out.log (HB0.out.more (Nat.le_trans hbase (by simp; omega))) (by omega) (Nat.le_trans hbase (by simp; omega))).mono ?_; rintro e w1 ⟨rfl, t1⟩
  obtain ⟨r1, D1, o1, n1⟩ := D0.out.turned t1
  have hv1 := ((HV.out.below (DoI.start_below w (lc x A1 c1 A1' c1') #[.int .u64 (kd : Int), .int .i64 nn, .slice A m c])).onlyL D0.out.log o1 n1)
  have HD1 := Lib.hid D1; clear D1
  have Hhv1 := Lib.hid hv1; clear hv1
  have D1 := HD1; clear HD1
  have bb1 := D1.out.only.below hg0 hlb HRB.out hbase
  clear t1 o1 n1 D0
  obtain ⟨⟨a0, a1, a2, a3, a4, a5, a6⟩, u0, u1, u2, u3, u4, u5, u6⟩ := cells7 D1.out.X
  obtain ⟨⟨p0, p1, p2⟩, -⟩ := cells3 D1.out.O
  obtain ⟨⟨d0, d1, d2, d3, d4, d5, d6⟩, e0, e1, e2, e3, e4, e5, e6⟩ := cells7 D1.out.Z
  have q1 := K.strq (c := c) (HB.out.below bb1)
  clear HB0
  go_wp2_with fail
  refine (rladdKept_any b Hhv1.out HLO.out (by omega)).mono ?_; rintro e w2 ⟨v2, rfl, y2, b2⟩
  have D2 := Lib.hid (D1.out.next b2)
  clear q1 b2 D1
  have Y2 := Lib.hid y2
  obtain ⟨A2, c2, A2', c2', rfl, z1, z2⟩ := y2
  have D1 := D2; clear D2
  clear a0 a1 a2 a3 a4 a5 a6 u0 u1 u2 u3 u4 u5 u6 p0 p1 p2 d0 d1 d2 d3 d4 d5 d6 e0 e1 e2 e3 e4 e5 e6
  obtain ⟨⟨a0, a1, a2, a3, a4, a5, a6⟩, u0, u1, u2, u3, u4, u5, u6⟩ := cells7 D1.out.X
  obtain ⟨⟨p0, p1, p2⟩, -⟩ := cells3 D1.out.O
  obtain ⟨⟨d0, d1, d2, d3, d4, d5, d6⟩, e0, e1, e2, e3, e4, e5, e6⟩ := cells7 D1.out.Z
  clear z1 z2
  generalize (x.addKept b).2 = er at *
  generalize (x.addKept b).1 = x2 at *
  have DP := Lib.hid (D1.out.putX rfl (by simp [noU8]) Y2.out)
  go_upto_region 30 with fail
  obtain ⟨w8, hw8⟩ : ∃ w8, (((((((w2.setCell ⟨w.heap.size, 0, none⟩ (.int .i64 (x2.s.room : Int))).setCell ⟨w.heap.size, 1, none⟩ (str x2.s.sure)).setCell ⟨w.heap.size, 2, none⟩ (str x2.s.rest)).setCell ⟨w.heap.size, 3, none⟩ (.slice A2 2 c2)).setCell ⟨w.heap.size, 4, none⟩ (.slice A2' 2 c2')).setCell ⟨w.heap.size, 5, none⟩ (.int .u32 (x2.gen : Int))).setCell ⟨w.heap.size, 6, none⟩ (.int .i64 (x2.kept : Int))) = w8 := ⟨_, rfl⟩
  rw [hw8] at DP ⊢
  have D1 := Lib.hid DP.out.1
  have Y8 := Lib.hid DP.out.2
  clear hw8 DP
  clear a0 a1 a2 a3 a4 a5 a6 u0 u1 u2 u3 u4 u5 u6 p0 p1 p2 d0 d1 d2 d3 d4 d5 d6 e0 e1 e2 e3 e4 e5 e6
  obtain ⟨⟨a0, a1, a2, a3, a4, a5, a6⟩, u0, u1, u2, u3, u4, u5, u6⟩ := cells7 D1.out.X
  obtain ⟨⟨p0, p1, p2⟩, -⟩ := cells3 D1.out.O
  obtain ⟨⟨d0, d1, d2, d3, d4, d5, d6⟩, e0, e1, e2, e3, e4, e5, e6⟩ := cells7 D1.out.Z
  go_region
  go_wp2_with fail
  refine bodyPost_ret (v := .tuple #[ptr lg, .agg (lc x2 A2 c2 A2' c2'), .bool true]) (by simp [results, Try.results56, go_sem, d0, d1, d2, d3, d4, d5, d6]) rfl ?_
  refine D1.out.fin ?_ Y8.out (by simp [noU8]) (by simp [noU8])
  repeat (first | (with_reducible exact Box.refl _ _ _) | ((with_reducible refine Box.setCell ?_ ?_ ?_ _); rotate_left; (· omega); (· omega)) | (with_reducible refine Box.drew ?_))
set_option maxRecDepth 100000 in
set_option maxHeartbeats 2000000 in
theorem do4_0 {w : World} {base g lg : Nat} {r : Option Nat} {x : LS} {v : Value} (kd : Nat) (nn : Int) (b : List UInt8) (A : Option Addr) (m c : Nat) (hl : LogAt w base g lg r x) (hv : LRefAt w g r v x) (hbase : base ≤ w.heap.size) (hb : Rd w base 1 A m (bv b)) (hm : m ≤ 1000) (hsm : Small x.s) (hq : kd % 8 < 2) :
    Calls Try.prog 56 #[ptr g, ptr lg, v, .agg #[.int .u64 (kd : Int), .int .i64 nn, .slice A m c]] w (LDoPost base g lg r (x.add b).1 w) := by
  have hbl : b.length = m := by have := hb.1; simp at this; omega
  have t2 : ((kd : Int) % 8 == 2) = false := by simp; omega
  have t3 : ((kd : Int) % 8 == 3) = false := by simp; omega
  have t4 : ((kd : Int) % 8 == 4) = false := by simp; omega
  have t5 : ((kd : Int) % 8 == 5) = false := by simp; omega
  have t6 : ((kd : Int) % 8 == 6) = false := by simp; omega
  have t7 : ((kd : Int) % 8 == 7) = false := by simp; omega
  obtain ⟨A1, c1, A1', c1', rfl, z1, z2⟩ := hv
  have hlo := hl.ok
  have HV := Lib.hid (show LRefAt w g r (.agg (lc x A1 c1 A1' c1')) x from ⟨A1, c1, A1', c1', rfl, z1, z2⟩)
  have D0 := Lib.hid (DoI.start hl (lc x A1 c1 A1' c1') #[.int .u64 (kd : Int), .int .i64 nn, .slice A m c])
  have hg0 := hl.disk.lt.1
  have hlb := hl.lgb
  have hrb := fun k hk => (hl.disk.lt.2.2 k hk).1
  have bb0 := D0.out.only.below hg0 hlb hrb hbase
  have HB0 := Lib.hid (hb.below bb0)
  have HB := Lib.hid hb
  have HL := Lib.hid hl
  have HRB := Lib.hid hrb
  have HLO := Lib.hid hlo
  clear hl hb z1 z2 bb0 hrb hlo
  have Hhq := Lib.hid hq; clear hq
  go_enter Try.func56, Try.ntmps56
  go_wp2_with fail
  refine (ladd_any A m c b D0.out.log (HB0.out.more (Nat.le_trans hbase (by simp; omega))) (by omega) (Nat.le_trans hbase (by simp; omega))).mono ?_; rintro e w1 ⟨rfl, t1⟩
  obtain ⟨r1, D1, o1, n1⟩ := D0.out.turned t1
  have hv1 := ((HV.out.below (DoI.start_below w (lc x A1 c1 A1' c1') #[.int .u64 (kd : Int), .int .i64 nn, .slice A m c])).onlyL D0.out.log o1 n1)
  have HD1 := Lib.hid D1; clear D1
  have Hhv1 := Lib.hid hv1; clear hv1
  have D1 := HD1; clear HD1
  have bb1 := D1.out.only.below hg0 hlb HRB.out hbase
  clear t1 o1 n1 D0
  obtain ⟨⟨a0, a1, a2, a3, a4, a5, a6⟩, u0, u1, u2, u3, u4, u5, u6⟩ := cells7 D1.out.X
  obtain ⟨⟨p0, p1, p2⟩, -⟩ := cells3 D1.out.O
  obtain ⟨⟨d0, d1, d2, d3, d4, d5, d6⟩, e0, e1, e2, e3, e4, e5, e6⟩ := cells7 D1.out.Z
  have q1 := K.strq (c := c) (HB.out.below bb1)
  clear HB0
  go_wp2_with fail
  refine (rladd_any b Hhv1.out HLO.out (by omega)).mono ?_; rintro e w2 ⟨v2, rfl, y2, b2⟩
  have D2 := Lib.hid (D1.out.next b2)
  clear q1 b2 D1
  have Y2 := Lib.hid y2
  obtain ⟨A2, c2, A2', c2', rfl, z1, z2⟩ := y2
  have D1 := D2; clear D2
  clear a0 a1 a2 a3 a4 a5 a6 u0 u1 u2 u3 u4 u5 u6 p0 p1 p2 d0 d1 d2 d3 d4 d5 d6 e0 e1 e2 e3 e4 e5 e6
  obtain ⟨⟨a0, a1, a2, a3, a4, a5, a6⟩, u0, u1, u2, u3, u4, u5, u6⟩ := cells7 D1.out.X
  obtain ⟨⟨p0, p1, p2⟩, -⟩ := cells3 D1.out.O
  obtain ⟨⟨d0, d1, d2, d3, d4, d5, d6⟩, e0, e1, e2, e3, e4, e5, e6⟩ := cells7 D1.out.Z
  clear z1 z2
  generalize (x.add b).2 = er at *
  generalize (x.add b).1 = x2 at *
  have DP := Lib.hid (D1.out.putX rfl (by simp [noU8]) Y2.out)
  go_upto_region 30 with fail
  obtain ⟨w8, hw8⟩ : ∃ w8, (((((((w2.setCell ⟨w.heap.size, 0, none⟩ (.int .i64 (x2.s.room : Int))).setCell ⟨w.heap.size, 1, none⟩ (str x2.s.sure)).setCell ⟨w.heap.size, 2, none⟩ (str x2.s.rest)).setCell ⟨w.heap.size, 3, none⟩ (.slice A2 2 c2)).setCell ⟨w.heap.size, 4, none⟩ (.slice A2' 2 c2')).setCell ⟨w.heap.size, 5, none⟩ (.int .u32 (x2.gen : Int))).setCell ⟨w.heap.size, 6, none⟩ (.int .i64 (x2.kept : Int))) = w8 := ⟨_, rfl⟩
  rw [hw8] at DP ⊢
  have D1 := Lib.hid DP.out.1
  have Y8 := Lib.hid DP.out.2
  clear hw8 DP
  clear a0 a1 a2 a3 a4 a5 a6 u0 u1 u2 u3 u4 u5 u6 p0 p1 p2 d0 d1 d2 d3 d4 d5 d6 e0 e1 e2 e3 e4 e5 e6
  obtain ⟨⟨a0, a1, a2, a3, a4, a5, a6⟩, u0, u1, u2, u3, u4, u5, u6⟩ := cells7 D1.out.X
  obtain ⟨⟨p0, p1, p2⟩, -⟩ := cells3 D1.out.O
  obtain ⟨⟨d0, d1, d2, d3, d4, d5, d6⟩, e0, e1, e2, e3, e4, e5, e6⟩ := cells7 D1.out.Z
  go_region
  go_wp2_with fail
  refine bodyPost_ret (v := .tuple #[ptr lg, .agg (lc x2 A2 c2 A2' c2'), .bool true]) (by simp [results, Try.results56, go_sem, d0, d1, d2, d3, d4, d5, d6]) rfl ?_
  refine D1.out.fin ?_ Y8.out (by simp [noU8]) (by simp [noU8])
  repeat (first | (with_reducible exact Box.refl _ _ _) | ((with_reducible refine Box.setCell ?_ ?_ ?_ _); rotate_left; (· omega); (· omega)) | (with_reducible refine Box.drew ?_))
set_option maxRecDepth 100000 in
set_option maxHeartbeats 2000000 in
theorem do4_6 {w : World} {base g lg : Nat} {r : Option Nat} {x : LS} {v : Value} (kd : Nat) (nn : Int) (b : List UInt8) (A : Option Addr) (m c : Nat) (hl : LogAt w base g lg r x) (hv : LRefAt w g r v x) (hbase : base ≤ w.heap.size) (hb : Rd w base 1 A m (bv b)) (hm : m ≤ 1000) (hsm : Small x.s) (hq : kd % 8 = 6) :
    Calls Try.prog 56 #[ptr g, ptr lg, v, .agg #[.int .u64 (kd : Int), .int .i64 nn, .slice A m c]] w (LDoPost base g lg r (x.check b).1 w) := by
  have hbl : b.length = m := by have := hb.1; simp at this; omega
  have t2 : ((kd : Int) % 8 == 2) = false := by simp; omega
  have t3 : ((kd : Int) % 8 == 3) = false := by simp; omega
  have t4 : ((kd : Int) % 8 == 4) = false := by simp; omega
  have t5 : ((kd : Int) % 8 == 5) = false := by simp; omega
  have t6 : ((kd : Int) % 8 == 6) = true := by simp; omega
  obtain ⟨A1, c1, A1', c1', rfl, z1, z2⟩ := hv
  have hlo := hl.ok
  have HV := Lib.hid (show LRefAt w g r (.agg (lc x A1 c1 A1' c1')) x from ⟨A1, c1, A1', c1', rfl, z1, z2⟩)
  have D0 := Lib.hid (DoI.start hl (lc x A1 c1 A1' c1') #[.int .u64 (kd : Int), .int .i64 nn, .slice A m c])
  have hg0 := hl.disk.lt.1
  have hlb := hl.lgb
  have hrb := fun k hk => (hl.disk.lt.2.2 k hk).1
  have bb0 := D0.out.only.below hg0 hlb hrb hbase
  have HB0 := Lib.hid (hb.below bb0)
  have HB := Lib.hid hb
  have HL := Lib.hid hl
  have HRB := Lib.hid hrb
  have HLO := Lib.hid hlo
  clear hl hb z1 z2 bb0 hrb hlo
  have Hhq := Lib.hid hq; clear hq
  go_enter Try.func56, Try.ntmps56
  go_wp2_with fail
  refine (lcheck_any A m c b D0.out.log (HB0.out.more (Nat.le_trans hbase (by simp; omega))) (by omega) (Nat.le_trans hbase (by simp; omega))).mono ?_; rintro e w1 ⟨rfl, t1⟩
  obtain ⟨r1, D1, o1, n1⟩ := D0.out.turned t1
  have hv1 := ((HV.out.below (DoI.start_below w (lc x A1 c1 A1' c1') #[.int .u64 (kd : Int), .int .i64 nn, .slice A m c])).onlyL D0.out.log o1 n1)
  have HD1 := Lib.hid D1; clear D1
  have Hhv1 := Lib.hid hv1; clear hv1
  have D1 := HD1; clear HD1
  have bb1 := D1.out.only.below hg0 hlb HRB.out hbase
  clear t1 o1 n1 D0
  obtain ⟨⟨a0, a1, a2, a3, a4, a5, a6⟩, u0, u1, u2, u3, u4, u5, u6⟩ := cells7 D1.out.X
  obtain ⟨⟨p0, p1, p2⟩, -⟩ := cells3 D1.out.O
  obtain ⟨⟨d0, d1, d2, d3, d4, d5, d6⟩, e0, e1, e2, e3, e4, e5, e6⟩ := cells7 D1.out.Z
  have q1 := K.strq (c := c) (HB.out.below bb1)
  clear HB0
  go_wp2_with fail
  refine (rlcheck_any b Hhv1.out HLO.out (by omega) D1.out.log.disk.lt.2.1 (fun k hk => (D1.out.log.disk.lt.2.2 k hk).2)).mono ?_; rintro e w2 ⟨v2, rfl, y2, b2⟩
  have D2 := Lib.hid (D1.out.next b2)
  clear q1 b2 D1
  have Y2 := Lib.hid y2
  obtain ⟨A2, c2, A2', c2', rfl, z1, z2⟩ := y2
  have D1 := D2; clear D2
  clear a0 a1 a2 a3 a4 a5 a6 u0 u1 u2 u3 u4 u5 u6 p0 p1 p2 d0 d1 d2 d3 d4 d5 d6 e0 e1 e2 e3 e4 e5 e6
  obtain ⟨⟨a0, a1, a2, a3, a4, a5, a6⟩, u0, u1, u2, u3, u4, u5, u6⟩ := cells7 D1.out.X
  obtain ⟨⟨p0, p1, p2⟩, -⟩ := cells3 D1.out.O
  obtain ⟨⟨d0, d1, d2, d3, d4, d5, d6⟩, e0, e1, e2, e3, e4, e5, e6⟩ := cells7 D1.out.Z
  clear z1 z2
  generalize (x.check b).2 = er at *
  generalize (x.check b).1 = x2 at *
  have DP := Lib.hid (D1.out.putX rfl (by simp [noU8]) Y2.out)
  go_upto_region 30 with fail
  obtain ⟨w8, hw8⟩ : ∃ w8, (((((((w2.setCell ⟨w.heap.size, 0, none⟩ (.int .i64 (x2.s.room : Int))).setCell ⟨w.heap.size, 1, none⟩ (str x2.s.sure)).setCell ⟨w.heap.size, 2, none⟩ (str x2.s.rest)).setCell ⟨w.heap.size, 3, none⟩ (.slice A2 2 c2)).setCell ⟨w.heap.size, 4, none⟩ (.slice A2' 2 c2')).setCell ⟨w.heap.size, 5, none⟩ (.int .u32 (x2.gen : Int))).setCell ⟨w.heap.size, 6, none⟩ (.int .i64 (x2.kept : Int))) = w8 := ⟨_, rfl⟩
  rw [hw8] at DP ⊢
  have D1 := Lib.hid DP.out.1
  have Y8 := Lib.hid DP.out.2
  clear hw8 DP
  clear a0 a1 a2 a3 a4 a5 a6 u0 u1 u2 u3 u4 u5 u6 p0 p1 p2 d0 d1 d2 d3 d4 d5 d6 e0 e1 e2 e3 e4 e5 e6
  obtain ⟨⟨a0, a1, a2, a3, a4, a5, a6⟩, u0, u1, u2, u3, u4, u5, u6⟩ := cells7 D1.out.X
  obtain ⟨⟨p0, p1, p2⟩, -⟩ := cells3 D1.out.O
  obtain ⟨⟨d0, d1, d2, d3, d4, d5, d6⟩, e0, e1, e2, e3, e4, e5, e6⟩ := cells7 D1.out.Z
  go_region
  go_wp2_with fail
  refine bodyPost_ret (v := .tuple #[ptr lg, .agg (lc x2 A2 c2 A2' c2'), .bool true]) (by simp [results, Try.results56, go_sem, d0, d1, d2, d3, d4, d5, d6]) rfl ?_
  refine D1.out.fin ?_ Y8.out (by simp [noU8]) (by simp [noU8])
  repeat (first | (with_reducible exact Box.refl _ _ _) | ((with_reducible refine Box.setCell ?_ ?_ ?_ _); rotate_left; (· omega); (· omega)) | (with_reducible refine Box.drew ?_))
end Go.Proofs.Ytkcehoejcklmfaa.L
