/- billhooklaw03's do: one thing is done to the disk and to the reference's disk. (Printed by gen_diskdo.py.) -/
import Derived.Test.YtkcehoejcklmfaaDiskBox
namespace Go.Proofs.Ytkcehoejcklmfaa.K
open Go.RowKit D O

theorem pinB {g : Nat} {r : Option Nat} {w w0 w1 : World} (_ : Only g r w0 w1) (h : Below w.heap.size w w0) : Below w.heap.size w w0 := h
theorem noB3 {w : World} {N : Nat} {a b c : Array Value} {t1 t2 t3 : TypeId} (q1 : w.heap[N]? = some (.cells a t1 (0, 0))) (q2 : w.heap[N + 1]? = some (.cells b t2 (0, 0))) (q3 : w.heap[N + 2]? = some (.cells c t3 (0, 0)))
    (n1 : ∀ v ∈ a, noU8 v = true) (n2 : ∀ v ∈ b, noU8 v = true) (n3 : ∀ v ∈ c, noU8 v = true) (h1 : t1 ≠ 9) (h2 : t2 ≠ 9) (h3 : t3 ≠ 9) : ∀ k, N ≤ k → k < N + 3 → NoB w k := by
  intro k hk1 hk2
  have : k = N ∨ k = N + 1 ∨ k = N + 2 := by omega
  rcases this with rfl | rfl | rfl
  · exact ⟨_, _, q1, n1, h1⟩
  · exact ⟨_, _, q2, n2, h2⟩
  · exact ⟨_, _, q3, n3, h3⟩

set_option maxRecDepth 100000 in
set_option maxHeartbeats 2000000 in
theorem do_3 {w : World} {base g : Nat} {r : Option Nat} {s t : St} {v : Value} (kd : Nat) (nn : Int) (b : List UInt8) (A : Option Addr) (m c : Nat) (hd : DiskAt w base g r s) (hx : RefAt w g r v t) (hto : t.ok) (hbase : base ≤ w.heap.size) (hb : Rd w base 1 A m (bv b)) (hm : m ≤ 1000000) (hq : kd % 7 = 3) :
    Calls Try.prog 18 #[ptr g, v, .agg #[.int .u64 (kd : Int), .int .i64 nn, .slice A m c]] w (DoPost base g r s.sync t.sync true w) := by
  have ho := hto
  obtain ⟨hg0, hg, hr⟩ := hd.lt
  have HX := Lib.hid hx
  obtain ⟨A1, c1, A1', c1', rfl, hz1, hz2⟩ := hx
  have HD := Lib.hid hd; clear hd
  have t3 : ((kd : Int) % 7 == 3) = true := by simp; omega
  have H_r := Lib.hid hr; clear hr
  have Hhz1 := Lib.hid hz1; clear hz1
  have Hhz2 := Lib.hid hz2; clear hz2
  have Hhq := Lib.hid hq; clear hq
  have Hho := Lib.hid ho; clear ho
  go_enter Try.func18, Try.ntmps18
  go_wp2_with fail
  have ho := Hho.out
  have hr := H_r.out
  refine (sync_any (HD.out.below ((((Below.refl _ _).alloc (Nat.le_refl _) _).alloc (by simp) _).alloc (by simp <;> omega) _))).mono ?_; rintro e w1 ⟨rfl, o1, r1, d1, n1⟩
  have hrx : ∀ k, w.heap.size ≤ k → r ≠ some k := fun k hk e => by have := (hr k e).2; omega
  have k1 := blk_only o1 (blk_alloc (blk_alloc (blk_new w _) _) _) (by omega) (hrx _ (by omega))
  have k2 := blk_only o1 (blk_alloc (blk_new (w.alloc _) _) _) (by simp <;> omega) (hrx _ (by simp <;> omega))
  have k3 := blk_only o1 (blk_new ((w.alloc _).alloc _) _) (by simp <;> omega) (hrx _ (by simp <;> omega))
  simp only [World.size_alloc] at k2 k3
  have hB0 := pinB o1 ((((Below.refl _ _).alloc (Nat.le_refl _) _).alloc (by simp) _).alloc (by simp <;> omega) _)
  have x1 := (HX.out.below hB0).only o1 n1
  obtain ⟨⟨a0, a1, a2, a3, a4⟩, b0, b1, b2, b3, b4⟩ := cells5 k1
  obtain ⟨⟨p0, p1, p2⟩, -⟩ := cells3 k2
  have D1 := Lib.hid d1; clear d1
  have O1 := Lib.hid o1; clear o1
  have N1 := Lib.hid n1; clear n1
  have Bh0 := Lib.hid hB0; clear hB0
  have Hx1 := Lib.hid x1; clear x1
  have Hk1 := Lib.hid k1; clear k1
  have Hk2 := Lib.hid k2; clear k2
  have Hk3 := Lib.hid k3; clear k3
  clear hr hrx
  clear ho
  go_wp2_with fail
  have ho := Hho.out
  refine (rsync_any Hx1.out ho).mono ?_; rintro e w2 ⟨v2, rfl, hx2, b2'⟩
  clear ho
  have HX2 := Lib.hid hx2
  obtain ⟨A2, c2, A2', c2', rfl, hy1, hy2⟩ := hx2
  clear a0 a1 a2 a3 a4 b0 b1 b2 b3 b4 p0 p1 p2 hy1 hy2
  have q1 := blk_old b2' Hk1.out
  have q2 := blk_old b2' Hk2.out
  have q3 := blk_old b2' Hk3.out
  obtain ⟨⟨a0, a1, a2, a3, a4⟩, b0, b1, b2, b3, b4⟩ := cells5 q1
  obtain ⟨⟨p0, p1, p2⟩, -⟩ := cells3 q2
  obtain ⟨⟨d0, d1, d2, d3, d4⟩, e0, e1, e2, e3, e4⟩ := cells5 q3
  have B2 := Lib.hid b2'; clear b2'
  have Hq1 := Lib.hid q1; clear q1
  have Hq2 := Lib.hid q2; clear q2
  have Hq3 := Lib.hid q3; clear q3
  go_wp2_with fail
  refine bodyPost_ret (v := .tuple #[.agg #[.int .i64 (St.room t.sync : Int), str (St.sure t.sync), str (St.rest t.sync), .slice A2 2 c2, .slice A2' 2 c2'], .bool true]) (by simp [results, Try.results18, go_sem, d0, d1, d2, d3, d4]) rfl ?_
  refine DoPost.mk Bh0.out (by simp) O1.out D1.out N1.out B2.out HX2.out ?_ (noB3 Hq1.out Hq2.out Hq3.out (by simp [noU8]) (by simp [noU8]) (by simp [noU8]) (by decide) (by decide) (by decide)) hg (fun k hk => (H_r.out k hk).2)
  repeat (first | (with_reducible exact Box.refl _ _ _) | refine Box.setCell ?_ (by omega) (by omega) _ | refine Box.drew ?_)

set_option maxRecDepth 100000 in
set_option maxHeartbeats 2000000 in
theorem do_4 {w : World} {base g : Nat} {r : Option Nat} {s t : St} {v : Value} (kd : Nat) (nn : Int) (b : List UInt8) (A : Option Addr) (m c : Nat) (hd : DiskAt w base g r s) (hx : RefAt w g r v t) (hto : t.ok) (hbase : base ≤ w.heap.size) (hb : Rd w base 1 A m (bv b)) (hm : m ≤ 1000000) (hq : kd % 7 = 4) :
    Calls Try.prog 18 #[ptr g, v, .agg #[.int .u64 (kd : Int), .int .i64 nn, .slice A m c]] w (DoPost base g r (s.crash nn) (t.crash nn) true w) := by
  have ho := hto
  obtain ⟨hg0, hg, hr⟩ := hd.lt
  have HX := Lib.hid hx
  obtain ⟨A1, c1, A1', c1', rfl, hz1, hz2⟩ := hx
  have HD := Lib.hid hd; clear hd
  have t3 : ((kd : Int) % 7 == 3) = false := by simp; omega
  have t4 : ((kd : Int) % 7 == 4) = true := by simp; omega
  have H_r := Lib.hid hr; clear hr
  have Hhz1 := Lib.hid hz1; clear hz1
  have Hhz2 := Lib.hid hz2; clear hz2
  have Hhq := Lib.hid hq; clear hq
  have Hho := Lib.hid ho; clear ho
  go_enter Try.func18, Try.ntmps18
  go_wp2_with fail
  have ho := Hho.out
  have hr := H_r.out
  refine (crash_any (HD.out.below ((((Below.refl _ _).alloc (Nat.le_refl _) _).alloc (by simp) _).alloc (by simp <;> omega) _)) nn).mono ?_; rintro e w1 ⟨rfl, o1, r1, d1, n1⟩
  have hrx : ∀ k, w.heap.size ≤ k → r ≠ some k := fun k hk e => by have := (hr k e).2; omega
  have k1 := blk_only o1 (blk_alloc (blk_alloc (blk_new w _) _) _) (by omega) (hrx _ (by omega))
  have k2 := blk_only o1 (blk_alloc (blk_new (w.alloc _) _) _) (by simp <;> omega) (hrx _ (by simp <;> omega))
  have k3 := blk_only o1 (blk_new ((w.alloc _).alloc _) _) (by simp <;> omega) (hrx _ (by simp <;> omega))
  simp only [World.size_alloc] at k2 k3
  have hB0 := pinB o1 ((((Below.refl _ _).alloc (Nat.le_refl _) _).alloc (by simp) _).alloc (by simp <;> omega) _)
  have x1 := (HX.out.below hB0).only o1 n1
  obtain ⟨⟨a0, a1, a2, a3, a4⟩, b0, b1, b2, b3, b4⟩ := cells5 k1
  obtain ⟨⟨p0, p1, p2⟩, -⟩ := cells3 k2
  have D1 := Lib.hid d1; clear d1
  have O1 := Lib.hid o1; clear o1
  have N1 := Lib.hid n1; clear n1
  have Bh0 := Lib.hid hB0; clear hB0
  have Hx1 := Lib.hid x1; clear x1
  have Hk1 := Lib.hid k1; clear k1
  have Hk2 := Lib.hid k2; clear k2
  have Hk3 := Lib.hid k3; clear k3
  clear hr hrx
  clear ho
  go_wp2_with fail
  have ho := Hho.out
  refine (rcrash_any nn Hx1.out ho).mono ?_; rintro e w2 ⟨v2, rfl, hx2, b2'⟩
  clear ho
  have HX2 := Lib.hid hx2
  obtain ⟨A2, c2, A2', c2', rfl, hy1, hy2⟩ := hx2
  clear a0 a1 a2 a3 a4 b0 b1 b2 b3 b4 p0 p1 p2 hy1 hy2
  have q1 := blk_old b2' Hk1.out
  have q2 := blk_old b2' Hk2.out
  have q3 := blk_old b2' Hk3.out
  obtain ⟨⟨a0, a1, a2, a3, a4⟩, b0, b1, b2, b3, b4⟩ := cells5 q1
  obtain ⟨⟨p0, p1, p2⟩, -⟩ := cells3 q2
  obtain ⟨⟨d0, d1, d2, d3, d4⟩, e0, e1, e2, e3, e4⟩ := cells5 q3
  have B2 := Lib.hid b2'; clear b2'
  have Hq1 := Lib.hid q1; clear q1
  have Hq2 := Lib.hid q2; clear q2
  have Hq3 := Lib.hid q3; clear q3
  go_wp2_with fail
  refine bodyPost_ret (v := .tuple #[.agg #[.int .i64 (St.room (t.crash nn) : Int), str (St.sure (t.crash nn)), str (St.rest (t.crash nn)), .slice A2 2 c2, .slice A2' 2 c2'], .bool true]) (by simp [results, Try.results18, go_sem, d0, d1, d2, d3, d4]) rfl ?_
  refine DoPost.mk Bh0.out (by simp) O1.out D1.out N1.out B2.out HX2.out ?_ (noB3 Hq1.out Hq2.out Hq3.out (by simp [noU8]) (by simp [noU8]) (by simp [noU8]) (by decide) (by decide) (by decide)) hg (fun k hk => (H_r.out k hk).2)
  repeat (first | (with_reducible exact Box.refl _ _ _) | refine Box.setCell ?_ (by omega) (by omega) _ | refine Box.drew ?_)

set_option maxRecDepth 100000 in
set_option maxHeartbeats 2000000 in
theorem do_5 {w : World} {base g : Nat} {r : Option Nat} {s t : St} {v : Value} (kd : Nat) (nn : Int) (b : List UInt8) (A : Option Addr) (m c : Nat) (hd : DiskAt w base g r s) (hx : RefAt w g r v t) (hto : t.ok) (hbase : base ≤ w.heap.size) (hb : Rd w base 1 A m (bv b)) (hm : m ≤ 1000000) (hq : kd % 7 = 5) :
    Calls Try.prog 18 #[ptr g, v, .agg #[.int .u64 (kd : Int), .int .i64 nn, .slice A m c]] w (DoPost base g r (s.write nn b).1 (t.write nn b).1 ((s.write nn b).2 == (t.write nn b).2) w) := by
  have ho := hto
  obtain ⟨hg0, hg, hr⟩ := hd.lt
  have HX := Lib.hid hx
  obtain ⟨A1, c1, A1', c1', rfl, hz1, hz2⟩ := hx
  have HD := Lib.hid hd; clear hd
  have t3 : ((kd : Int) % 7 == 3) = false := by simp; omega
  have t4 : ((kd : Int) % 7 == 4) = false := by simp; omega
  have t5 : ((kd : Int) % 7 == 5) = true := by simp; omega
  have H_r := Lib.hid hr; clear hr
  have Hhz1 := Lib.hid hz1; clear hz1
  have Hhz2 := Lib.hid hz2; clear hz2
  have Hhq := Lib.hid hq; clear hq
  have Hho := Lib.hid ho; clear ho
  go_enter Try.func18, Try.ntmps18
  go_wp2_with fail
  have ho := Hho.out
  have hr := H_r.out
  refine (write_any (HD.out.below ((((Below.refl _ _).alloc (Nat.le_refl _) _).alloc (by simp) _).alloc (by simp <;> omega) _)) nn A m c b ((hb.below ((((Below.refl base w).alloc hbase _).alloc (by simp <;> omega) _).alloc (by simp <;> omega) _)).more (by simp <;> omega)) (by omega)).mono ?_; rintro e w1 ⟨rfl, o1, r1, d1, n1⟩
  have hrx : ∀ k, w.heap.size ≤ k → r ≠ some k := fun k hk e => by have := (hr k e).2; omega
  have k1 := blk_only o1 (blk_alloc (blk_alloc (blk_new w _) _) _) (by omega) (hrx _ (by omega))
  have k2 := blk_only o1 (blk_alloc (blk_new (w.alloc _) _) _) (by simp <;> omega) (hrx _ (by simp <;> omega))
  have k3 := blk_only o1 (blk_new ((w.alloc _).alloc _) _) (by simp <;> omega) (hrx _ (by simp <;> omega))
  simp only [World.size_alloc] at k2 k3
  have hB0 := pinB o1 ((((Below.refl _ _).alloc (Nat.le_refl _) _).alloc (by simp) _).alloc (by simp <;> omega) _)
  have x1 := (HX.out.below hB0).only o1 n1
  obtain ⟨⟨a0, a1, a2, a3, a4⟩, b0, b1, b2, b3, b4⟩ := cells5 k1
  obtain ⟨⟨p0, p1, p2⟩, -⟩ := cells3 k2
  have bb : Below base w w1 := ⟨o1.os.trans hB0.os, o1.tape.trans hB0.tape, o1.output.trans hB0.output, Nat.le_trans hB0.size o1.size, fun k hk => (o1.block k (by have := hB0.size; omega) (by omega) (fun e => by have := (hr k e).1; omega)).trans (hB0.block k (by omega))⟩
  have qs := strq (c := c) (hb.below bb)
  have D1 := Lib.hid d1; clear d1
  have O1 := Lib.hid o1; clear o1
  have N1 := Lib.hid n1; clear n1
  have Bh0 := Lib.hid hB0; clear hB0
  have Hx1 := Lib.hid x1; clear x1
  have Hk1 := Lib.hid k1; clear k1
  have Hk2 := Lib.hid k2; clear k2
  have Hk3 := Lib.hid k3; clear k3
  clear hr hrx
  clear ho
  go_wp2_with fail
  have ho := Hho.out
  refine (rwrite_any nn b Hx1.out D1.out.lt.2.1 (fun k hk => (D1.out.lt.2.2 k hk).2)).mono ?_; rintro e w2 ⟨v2, rfl, hx2, b2'⟩
  clear ho
  have HX2 := Lib.hid hx2
  obtain ⟨A2, c2, A2', c2', rfl, hy1, hy2⟩ := hx2
  clear a0 a1 a2 a3 a4 b0 b1 b2 b3 b4 p0 p1 p2 hy1 hy2
  clear qs
  have q1 := blk_old b2' Hk1.out
  have q2 := blk_old b2' Hk2.out
  have q3 := blk_old b2' Hk3.out
  obtain ⟨⟨a0, a1, a2, a3, a4⟩, b0, b1, b2, b3, b4⟩ := cells5 q1
  obtain ⟨⟨p0, p1, p2⟩, -⟩ := cells3 q2
  obtain ⟨⟨d0, d1, d2, d3, d4⟩, e0, e1, e2, e3, e4⟩ := cells5 q3
  have B2 := Lib.hid b2'; clear b2'
  have Hq1 := Lib.hid q1; clear q1
  have Hq2 := Lib.hid q2; clear q2
  have Hq3 := Lib.hid q3; clear q3
  go_wp2_with fail
  refine bodyPost_ret (v := .tuple #[.agg #[.int .i64 (St.room (t.write nn b).1 : Int), str (St.sure (t.write nn b).1), str (St.rest (t.write nn b).1), .slice A2 2 c2, .slice A2' 2 c2'], .bool ((s.write nn b).2 == (t.write nn b).2)]) (by simp [results, Try.results18, go_sem, d0, d1, d2, d3, d4]) rfl ?_
  refine DoPost.mk Bh0.out (by simp) O1.out D1.out N1.out B2.out HX2.out ?_ (noB3 Hq1.out Hq2.out Hq3.out (by simp [noU8]) (by simp [noU8]) (by simp [noU8]) (by decide) (by decide) (by decide)) hg (fun k hk => (H_r.out k hk).2)
  repeat (first | (with_reducible exact Box.refl _ _ _) | refine Box.setCell ?_ (by omega) (by omega) _ | refine Box.drew ?_)

set_option maxRecDepth 100000 in
set_option maxHeartbeats 2000000 in
theorem do_6 {w : World} {base g : Nat} {r : Option Nat} {s t : St} {v : Value} (kd : Nat) (nn : Int) (b : List UInt8) (A : Option Addr) (m c : Nat) (hd : DiskAt w base g r s) (hx : RefAt w g r v t) (hto : t.ok) (hbase : base ≤ w.heap.size) (hb : Rd w base 1 A m (bv b)) (hm : m ≤ 1000000) (hq : kd % 7 = 6) :
    Calls Try.prog 18 #[ptr g, v, .agg #[.int .u64 (kd : Int), .int .i64 nn, .slice A m c]] w (DoPost base g r s.clear t.clear true w) := by
  have ho := hto
  obtain ⟨hg0, hg, hr⟩ := hd.lt
  have HX := Lib.hid hx
  obtain ⟨A1, c1, A1', c1', rfl, hz1, hz2⟩ := hx
  have HD := Lib.hid hd; clear hd
  have t3 : ((kd : Int) % 7 == 3) = false := by simp; omega
  have t4 : ((kd : Int) % 7 == 4) = false := by simp; omega
  have t5 : ((kd : Int) % 7 == 5) = false := by simp; omega
  have t6 : ((kd : Int) % 7 == 6) = true := by simp; omega
  have H_r := Lib.hid hr; clear hr
  have Hhz1 := Lib.hid hz1; clear hz1
  have Hhz2 := Lib.hid hz2; clear hz2
  have Hhq := Lib.hid hq; clear hq
  have Hho := Lib.hid ho; clear ho
  go_enter Try.func18, Try.ntmps18
  go_wp2_with fail
  have ho := Hho.out
  have hr := H_r.out
  refine (clear_any (HD.out.below ((((Below.refl _ _).alloc (Nat.le_refl _) _).alloc (by simp) _).alloc (by simp <;> omega) _))).mono ?_; rintro e w1 ⟨rfl, o1, r1, d1, n1⟩
  have hrx : ∀ k, w.heap.size ≤ k → r ≠ some k := fun k hk e => by have := (hr k e).2; omega
  have k1 := blk_only o1 (blk_alloc (blk_alloc (blk_new w _) _) _) (by omega) (hrx _ (by omega))
  have k2 := blk_only o1 (blk_alloc (blk_new (w.alloc _) _) _) (by simp <;> omega) (hrx _ (by simp <;> omega))
  have k3 := blk_only o1 (blk_new ((w.alloc _).alloc _) _) (by simp <;> omega) (hrx _ (by simp <;> omega))
  simp only [World.size_alloc] at k2 k3
  have hB0 := pinB o1 ((((Below.refl _ _).alloc (Nat.le_refl _) _).alloc (by simp) _).alloc (by simp <;> omega) _)
  have x1 := (HX.out.below hB0).only o1 n1
  obtain ⟨⟨a0, a1, a2, a3, a4⟩, b0, b1, b2, b3, b4⟩ := cells5 k1
  obtain ⟨⟨p0, p1, p2⟩, -⟩ := cells3 k2
  have D1 := Lib.hid d1; clear d1
  have O1 := Lib.hid o1; clear o1
  have N1 := Lib.hid n1; clear n1
  have Bh0 := Lib.hid hB0; clear hB0
  have Hx1 := Lib.hid x1; clear x1
  have Hk1 := Lib.hid k1; clear k1
  have Hk2 := Lib.hid k2; clear k2
  have Hk3 := Lib.hid k3; clear k3
  clear hr hrx
  obtain ⟨⟨d0, d1, d2, d3, d4⟩, e0, e1, e2, e3, e4⟩ := cells5 Hk3.out
  clear ho
  go_wp2_with fail
  refine bodyPost_ret (v := .tuple #[.agg #[.int .i64 (t.room : Int), str [], str [], .slice A1 2 c1, .slice A1' 2 c1'], .bool true]) (by simp [results, Try.results18, go_sem, d0, d1, d2, d3, d4]) rfl ?_
  have x2 : RefAt w1 g r1 (.agg #[.int .i64 (t.room : Int), str [], str [], .slice A1 2 c1, .slice A1' 2 c1']) t.clear := by
    obtain ⟨Z, z, Z', z', e, y1, y2⟩ := Hx1.out
    injection e with e
    simp at e
    obtain ⟨⟨rfl, rfl⟩, rfl, rfl⟩ := e
    exact ⟨_, _, _, _, rfl, y1, y2⟩
  refine DoPost.mk Bh0.out (by simp) O1.out D1.out N1.out (Below.refl _ _) x2 ?_ (noB3 Hk1.out Hk2.out Hk3.out (by simp [noU8]) (by simp [noU8]) (by simp [noU8]) (by decide) (by decide) (by decide)) hg (fun k hk => (H_r.out k hk).2)
  repeat (first | (with_reducible exact Box.refl _ _ _) | refine Box.setCell ?_ (by omega) (by omega) _ | refine Box.drew ?_)

set_option maxRecDepth 100000 in
set_option maxHeartbeats 2000000 in
theorem do_0 {w : World} {base g : Nat} {r : Option Nat} {s t : St} {v : Value} (kd : Nat) (nn : Int) (b : List UInt8) (A : Option Addr) (m c : Nat) (hd : DiskAt w base g r s) (hx : RefAt w g r v t) (hto : t.ok) (hbase : base ≤ w.heap.size) (hb : Rd w base 1 A m (bv b)) (hm : m ≤ 1000000) (hq : kd % 7 < 3) :
    Calls Try.prog 18 #[ptr g, v, .agg #[.int .u64 (kd : Int), .int .i64 nn, .slice A m c]] w (DoPost base g r (s.app b).1 (t.app b).1 ((s.app b).2 == (t.app b).2) w) := by
  have ho := hto
  obtain ⟨hg0, hg, hr⟩ := hd.lt
  have HX := Lib.hid hx
  obtain ⟨A1, c1, A1', c1', rfl, hz1, hz2⟩ := hx
  have HD := Lib.hid hd; clear hd
  have t3 : ((kd : Int) % 7 == 3) = false := by simp; omega
  have t4 : ((kd : Int) % 7 == 4) = false := by simp; omega
  have t5 : ((kd : Int) % 7 == 5) = false := by simp; omega
  have t6 : ((kd : Int) % 7 == 6) = false := by simp; omega
  have H_r := Lib.hid hr; clear hr
  have Hhz1 := Lib.hid hz1; clear hz1
  have Hhz2 := Lib.hid hz2; clear hz2
  have Hhq := Lib.hid hq; clear hq
  have Hho := Lib.hid ho; clear ho
  go_enter Try.func18, Try.ntmps18
  go_wp2_with fail
  have ho := Hho.out
  have hr := H_r.out
  refine (append_any (HD.out.below ((((Below.refl _ _).alloc (Nat.le_refl _) _).alloc (by simp) _).alloc (by simp <;> omega) _)) A m c b ((hb.below ((((Below.refl base w).alloc hbase _).alloc (by simp <;> omega) _).alloc (by simp <;> omega) _)).more (by simp <;> omega)) (by simp <;> omega) (by omega)).mono ?_; rintro e w1 ⟨rfl, o1, r1, d1, n1⟩
  have hrx : ∀ k, w.heap.size ≤ k → r ≠ some k := fun k hk e => by have := (hr k e).2; omega
  have k1 := blk_only o1 (blk_alloc (blk_alloc (blk_new w _) _) _) (by omega) (hrx _ (by omega))
  have k2 := blk_only o1 (blk_alloc (blk_new (w.alloc _) _) _) (by simp <;> omega) (hrx _ (by simp <;> omega))
  have k3 := blk_only o1 (blk_new ((w.alloc _).alloc _) _) (by simp <;> omega) (hrx _ (by simp <;> omega))
  simp only [World.size_alloc] at k2 k3
  have hB0 := pinB o1 ((((Below.refl _ _).alloc (Nat.le_refl _) _).alloc (by simp) _).alloc (by simp <;> omega) _)
  have x1 := (HX.out.below hB0).only o1 n1
  obtain ⟨⟨a0, a1, a2, a3, a4⟩, b0, b1, b2, b3, b4⟩ := cells5 k1
  obtain ⟨⟨p0, p1, p2⟩, -⟩ := cells3 k2
  have bb : Below base w w1 := ⟨o1.os.trans hB0.os, o1.tape.trans hB0.tape, o1.output.trans hB0.output, Nat.le_trans hB0.size o1.size, fun k hk => (o1.block k (by have := hB0.size; omega) (by omega) (fun e => by have := (hr k e).1; omega)).trans (hB0.block k (by omega))⟩
  have qs := strq (c := c) (hb.below bb)
  have D1 := Lib.hid d1; clear d1
  have O1 := Lib.hid o1; clear o1
  have N1 := Lib.hid n1; clear n1
  have Bh0 := Lib.hid hB0; clear hB0
  have Hx1 := Lib.hid x1; clear x1
  have Hk1 := Lib.hid k1; clear k1
  have Hk2 := Lib.hid k2; clear k2
  have Hk3 := Lib.hid k3; clear k3
  clear hr hrx
  clear ho
  go_wp2_with fail
  have ho := Hho.out
  refine (rappend_any b Hx1.out ho (by have := hb.1; simp at this; omega)).mono ?_; rintro e w2 ⟨v2, rfl, hx2, b2'⟩
  clear ho
  have HX2 := Lib.hid hx2
  obtain ⟨A2, c2, A2', c2', rfl, hy1, hy2⟩ := hx2
  clear a0 a1 a2 a3 a4 b0 b1 b2 b3 b4 p0 p1 p2 hy1 hy2
  clear qs
  have q1 := blk_old b2' Hk1.out
  have q2 := blk_old b2' Hk2.out
  have q3 := blk_old b2' Hk3.out
  obtain ⟨⟨a0, a1, a2, a3, a4⟩, b0, b1, b2, b3, b4⟩ := cells5 q1
  obtain ⟨⟨p0, p1, p2⟩, -⟩ := cells3 q2
  obtain ⟨⟨d0, d1, d2, d3, d4⟩, e0, e1, e2, e3, e4⟩ := cells5 q3
  have B2 := Lib.hid b2'; clear b2'
  have Hq1 := Lib.hid q1; clear q1
  have Hq2 := Lib.hid q2; clear q2
  have Hq3 := Lib.hid q3; clear q3
  go_wp2_with fail
  refine bodyPost_ret (v := .tuple #[.agg #[.int .i64 (St.room (t.app b).1 : Int), str (St.sure (t.app b).1), str (St.rest (t.app b).1), .slice A2 2 c2, .slice A2' 2 c2'], .bool ((s.app b).2 == (t.app b).2)]) (by simp [results, Try.results18, go_sem, d0, d1, d2, d3, d4]) rfl ?_
  refine DoPost.mk Bh0.out (by simp) O1.out D1.out N1.out B2.out HX2.out ?_ (noB3 Hq1.out Hq2.out Hq3.out (by simp [noU8]) (by simp [noU8]) (by simp [noU8]) (by decide) (by decide) (by decide)) hg (fun k hk => (H_r.out k hk).2)
  repeat (first | (with_reducible exact Box.refl _ _ _) | refine Box.setCell ?_ (by omega) (by omega) _ | refine Box.drew ?_)

theorem do_any {w : World} {base g : Nat} {r : Option Nat} {s t : St} {v : Value} (o : D.Op) (A : Option Addr) (m c : Nat) (hd : DiskAt w base g r s) (hx : RefAt w g r v t) (hto : t.ok) (hbase : base ≤ w.heap.size) (hb : Rd w base 1 A m (bv o.b)) (hm : m ≤ 1000000) :
    Calls Try.prog 18 #[ptr g, v, .agg #[.int .u64 (o.kind : Int), .int .i64 o.n, .slice A m c]] w (DoPost base g r (s.step o) (t.step o) (s.err o == t.err o) w) := by
  have hlt : o.kind % 7 < 7 := Nat.mod_lt _ (by omega)
  by_cases h3 : o.kind % 7 = 3
  · have e : ∀ s : St, s.step o = s.sync := fun s => by simp [St.step, h3]
    have f : (s.err o == t.err o) = true := by simp [St.err, h3]
    rw [e, e, f]; exact do_3 _ _ _ _ _ _ hd hx hto hbase hb hm h3
  · by_cases h4 : o.kind % 7 = 4
    · have e : ∀ s : St, s.step o = s.crash o.n := fun s => by simp [St.step, h4]
      have f : (s.err o == t.err o) = true := by simp [St.err, h4]
      rw [e, e, f]; exact do_4 _ _ _ _ _ _ hd hx hto hbase hb hm h4
    · by_cases h5 : o.kind % 7 = 5
      · have e : ∀ s : St, s.step o = (s.write o.n o.b).1 := fun s => by simp [St.step, h5]
        have f : ∀ s : St, s.err o = (s.write o.n o.b).2 := fun s => by simp [St.err, h5]
        rw [e, e, f, f]; exact do_5 _ _ _ _ _ _ hd hx hto hbase hb hm h5
      · by_cases h6 : o.kind % 7 = 6
        · have e : ∀ s : St, s.step o = s.clear := fun s => by simp [St.step, h6]
          have f : (s.err o == t.err o) = true := by simp [St.err, h6]
          rw [e, e, f]; exact do_6 _ _ _ _ _ _ hd hx hto hbase hb hm h6
        · have e : ∀ s : St, s.step o = (s.app o.b).1 := fun s => by simp [St.step, h3, h4, h5, h6]
          have f : ∀ s : St, s.err o = (s.app o.b).2 := fun s => by simp [St.err, h3, h4, h5, h6]
          rw [e, e, f, f]; exact do_0 _ _ _ _ _ _ hd hx hto hbase hb hm (by omega)
end Go.Proofs.Ytkcehoejcklmfaa.K
