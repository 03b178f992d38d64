/- billhooklaw04's do: a crash, and Open; all kinds. -/
import Derived.Test.YtkcehoejcklmfaaWalDo3
import Derived.Test.YtkcehoejcklmfaaSchedB
namespace Go.Proofs.Ytkcehoejcklmfaa.L
open Go.RowKit O D K



theorem rd_kb {w : World} {B n kb : Nat} {A : Option Addr} {xs : List Value} (h : Rd w B 1 A n xs) (hkb : kb < B) : ∃ b3, (b3 = kb ∨ (0 < n ∧ blkOf A = some b3)) ∧ b3 < B ∧ ∀ W, KB [kb, b3] w W → Rd W B 1 A n xs := by
  rcases Nat.eq_zero_or_pos n with h0 | h0
  · refine ⟨kb, .inl rfl, hkb, fun W _ => ⟨h.1, fun hp => ?_⟩⟩
    have := h.1
    simp at this
    omega
  · have hx : 0 < xs.length := by have := h.1; simp at this; omega
    obtain ⟨b, off, e, hb, hc⟩ := h.2 hx
    refine ⟨b, .inr ⟨h0, by rw [e]; rfl⟩, hb, fun W hW => ⟨h.1, fun hp => ⟨b, off, e, hb, fun j hj => ?_⟩⟩⟩
    exact (World.cell?_of_block (a := ⟨b, off + j, none⟩) (hW b (by simp))).trans (hc j hj)
theorem crash_len (s : St) (k : Int) : (s.crash k).log.length ≤ s.log.length := by simp [St.crash, St.log]; omega
theorem DoI.opened {w W W' : World} {base g lg lg' : Nat} {r r' r'' : Option Nat} {cs os : Array Value} {x x' : LS} (h : DoI w base g lg r cs os x lg' r' W) (o : Only g none W W') (l : LogAt W' base g W.heap.size r'' x') (n : NxR r' r'' W) : DoI w base g lg r cs os x' W.heap.size r'' W' := by
  have hs := h.size
  have hblk : ∀ k, w.heap.size ≤ k → k < w.heap.size + 3 → W'.heap[k]? = W.heap[k]? := fun k h1 h2 => o.block k (by omega) (by have := h.lt.1; omega) (by simp)
  refine ⟨l, ⟨o.os.trans h.only.os, o.tape.trans h.only.tape, o.output.trans h.only.output, Nat.le_trans h.only.size o.size, fun k hk a b c => (o.block k (Nat.lt_of_lt_of_le hk h.only.size) a (by simp)).trans (h.only.block k hk a b c)⟩, ?_, h.lt, .inr hs, ?_, (hblk _ (by omega) (by omega)).trans h.X, (hblk _ (by omega) (by omega)).trans h.O, (hblk _ (by omega) (by omega)).trans h.Z⟩
  · rcases n with e | e | ⟨q, e, hq⟩
    · rw [e]; exact h.nx
    · exact .inr (.inl e)
    · exact .inr (.inr ⟨q, e, by omega⟩)
  · intro k hk
    rcases n with e | e | ⟨q, e, hq⟩
    · exact h.rn k (by rw [← e]; exact hk)
    · rw [e] at hk; cases hk
    · rw [e] at hk; injection hk with hk; exact .inr (by omega)

set_option maxRecDepth 100000 in
set_option maxHeartbeats 4000000 in
theorem do4_7 {w : World} {base g lg : Nat} {r : Option Nat} {x : LS} {v : Value} (kd : Nat) (nn : Int) (b : List UInt8) (A : Option Addr) (m c : Nat) (hl : LogAt w base g lg r x) (hv : LRefAt w g r v x) (hbase : base ≤ w.heap.size) (hb : Rd w base 1 A m (bv b)) (hm : m ≤ 1000) (hsm : Small x.s) (hq : kd % 8 = 7) :
    Calls Try.prog 56 #[ptr g, ptr lg, v, .agg #[.int .u64 (kd : Int), .int .i64 nn, .slice A m c]] w (LDoPost base g lg r (openS (x.s.crash nn)) w) := by
  have t2 : ((kd : Int) % 8 == 2) = false := by simp; omega
  have t3 : ((kd : Int) % 8 == 3) = false := by simp; omega
  have t4 : ((kd : Int) % 8 == 4) = false := by simp; omega
  have t5 : ((kd : Int) % 8 == 5) = false := by simp; omega
  have t6 : ((kd : Int) % 8 == 6) = false := by simp; omega
  have t7 : ((kd : Int) % 8 == 7) = true := by simp; omega
  have hc0 : (x.s.crash nn).n0.length ≤ 10000000 := by have := hsm.2.2.1; simp [St.crash]; omega
  have hc1 : (x.s.crash nn).n1.length ≤ 10000000 := by have := hsm.2.2.2; simp [St.crash]; omega
  have hcl := crash_len x.s nn
  have hck := D.crash_ok hl.ok.1 nn
  have hcr : (x.s.crash nn).room = x.s.room := rfl
  have HC := Lib.hid (show LS.ok { x with s := x.s.crash nn } from ⟨hck, hl.ok.2.1, by have := hl.ok.2.2; simp only; omega⟩)
  clear hcl hcr hck
  obtain ⟨A1, c1, A1', c1', rfl, z1, z2⟩ := hv
  have hlo := hl.ok
  have HV := Lib.hid (show LRefAt w g r (.agg (lc x A1 c1 A1' c1')) x from ⟨A1, c1, A1', c1', rfl, z1, z2⟩)
  have D0 := Lib.hid (DoI.start hl (lc x A1 c1 A1' c1') #[.int .u64 (kd : Int), .int .i64 nn, .slice A m c])
  have hg0 := hl.disk.lt.1
  have hlb := hl.lgb
  have hrb := fun k hk => (hl.disk.lt.2.2 k hk).1
  have bb0 := D0.out.only.below hg0 hlb hrb hbase
  have HB0 := Lib.hid (hb.below bb0)
  have HB := Lib.hid hb
  have HL := Lib.hid hl
  have HRB := Lib.hid hrb
  have HLO := Lib.hid hlo
  clear hl hb z1 z2 bb0 hrb hlo
  have Hhq := Lib.hid hq; clear hq
  go_enter Try.func56, Try.ntmps56
  go_wp2_with fail
  refine (crash_any D0.out.log.disk nn).mono ?_; rintro e w1 ⟨rfl, t1⟩
  obtain ⟨r1, D1, o1, n1⟩ := D0.out.turned (D0.out.log.turned t1 HC.out)
  have hv1 := ((HV.out.below (DoI.start_below w (lc x A1 c1 A1' c1') #[.int .u64 (kd : Int), .int .i64 nn, .slice A m c])).onlyL D0.out.log o1 n1)
  have HD1 := Lib.hid D1; clear D1
  have Hhv1 := Lib.hid hv1; clear hv1
  have D1 := HD1; clear HD1
  have hb1 : base ≤ w1.heap.size := by have := D1.out.size; omega
  clear t1 o1 n1 D0
  go_wp2_with fail
  refine (lopen_any D1.out.log.disk hc0 hc1 hb1).mono ?_; rintro e w2 ⟨A3, n3, c3, A4, n4, c4, xs4, rfl, rd3, hnc3, own4, reps4, o2, r2, L2, nx2⟩
  have D2 := Lib.hid (D1.out.opened o2 L2 nx2)
  have Y2 := Lib.hid (Hhv1.out.only o2.weak nx2)
  have q3 := K.strq (c := c3) rd3
  have R4 := Lib.hid (Rd.of_own own4)
  have R3 := Lib.hid rd3
  have P4 := Lib.hid reps4
  clear o2 L2 nx2 own4 reps4 D1 Hhv1 rd3
  have D1 := D2; clear D2
  obtain ⟨⟨a0, a1, a2, a3, a4, a5, a6⟩, u0, u1, u2, u3, u4, u5, u6⟩ := cells7 D1.out.X
  obtain ⟨⟨p0, p1, p2⟩, -⟩ := cells3 D1.out.O
  obtain ⟨⟨d0, d1, d2, d3, d4, d5, d6⟩, e0, e1, e2, e3, e4, e5, e6⟩ := cells7 D1.out.Z
  generalize hlg : w1.heap.size = lgn at *
  clear hlg q3
  have hl2 := lt_of_block D1.out.X
  have hn4 : n4 ≤ 100000000 := by
    have e1 := R4.out.len_of SlU.size P4.out (by omega)
    have e2 := scan_rows (x.s.crash nn).log (genS (x.s.crash nn)) (by have := HC.out.1.1; have := HC.out.1.2; simp only at *; omega)
    have e3 : (scanS (x.s.crash nn)).1.length ≤ (x.s.crash nn).log.length := e2
    have := HC.out.1.1
    have := HC.out.1.2
    simp only at *
    omega
  go_wp2_with fail
  refine (rcrash_any nn Y2.out.ref HLO.out.1).mono ?_; rintro e w3 ⟨v3, rfl, y3, b3⟩
  have D3 := Lib.hid (D1.out.next b3)
  have R3' := Lib.hid (R3.out.next b3)
  have R4' := Lib.hid (R4.out.next b3)
  have P4' := Lib.hid (P4.out.imp (SlU.keep (KeepU.of_below b3)))
  clear b3 D1 R3 R4 P4 Y2
  have D1 := D3; clear D3
  clear a0 a1 a2 a3 a4 a5 a6 u0 u1 u2 u3 u4 u5 u6 p0 p1 p2 d0 d1 d2 d3 d4 d5 d6 e0 e1 e2 e3 e4 e5 e6
  obtain ⟨⟨a0, a1, a2, a3, a4, a5, a6⟩, u0, u1, u2, u3, u4, u5, u6⟩ := cells7 D1.out.X
  obtain ⟨⟨p0, p1, p2⟩, -⟩ := cells3 D1.out.O
  obtain ⟨⟨d0, d1, d2, d3, d4, d5, d6⟩, e0, e1, e2, e3, e4, e5, e6⟩ := cells7 D1.out.Z
  have Y3 := Lib.hid y3
  obtain ⟨A6, c6, A6', c6', rfl, z1, z2⟩ := y3
  clear z1 z2
  go_wp2_with fail
  refine (rlopen_any Y3.out HC.out.1 hc0 hc1).mono ?_; rintro e w4 ⟨v4, A5, n5, c5, rfl, y4, rd5, hn5, b4⟩
  have D3 := Lib.hid (D1.out.next b4)
  have Q3 := Lib.hid (R3'.out.next b4)
  have Q4 := Lib.hid (R4'.out.next b4)
  have S4 := Lib.hid (P4'.out.imp (SlU.keep (KeepU.of_below b4)))
  have R5 := Lib.hid rd5
  have Y4 := Lib.hid y4
  obtain ⟨A7, c7, A7', c7', rfl, z1, z2⟩ := y4
  clear b4 D1 R3' R4' P4' Y3 rd5 z1 z2
  have D1 := D3; clear D3
  clear a0 a1 a2 a3 a4 a5 a6 u0 u1 u2 u3 u4 u5 u6 p0 p1 p2 d0 d1 d2 d3 d4 d5 d6 e0 e1 e2 e3 e4 e5 e6
  generalize hX : openS (x.s.crash nn) = x9 at *
  generalize optS (newTo (x.s.crash nn) 2) = im at *
  generalize (scanS (x.s.crash nn)).1 = rows at *
  clear hn5
  go_upto_region 29 with fail
  have ba := (Below.refl w4.heap.size w4).alloc (Nat.le_refl _) (.cells (lc x9 A7 c7 A7' c7') 82)
  have D5 := Lib.hid (D1.out.next ba)
  have Q3' := Lib.hid (Q3.out.next ba)
  have Q4' := Lib.hid (Q4.out.next ba)
  have S4' := Lib.hid (S4.out.imp (SlU.keep (KeepU.of_below ba)))
  have R5' := Lib.hid (R5.out.next ba)
  have Y5 := Lib.hid (Y4.out.below ba)
  have X5 := Lib.hid (blk_new w4 (.cells (lc x9 A7 c7 A7' c7') 82))
  have hkz := D1.out.size
  clear ba Q3 Q4 S4 R5 Y4 D1
  obtain ⟨kb, hkb⟩ : ∃ kb, w4.heap.size = kb := ⟨_, rfl⟩
  obtain ⟨w5, hw5⟩ : ∃ w5, (w4.alloc (.cells (lc x9 A7 c7 A7' c7') 82)) = w5 := ⟨_, rfl⟩
  rw [hw5] at D5 Q3' Q4' S4' R5' Y5 X5
  rw [hkb] at X5 hkz ⊢
  rw [show (w4.alloc (.cells #[.int .i64 (x9.s.room : Int), .string ⟨x9.s.sure.toArray⟩, .string ⟨x9.s.rest.toArray⟩, .slice A7 2 c7, .slice A7' 2 c7', .int .u32 (x9.gen : Int), .int .i64 (x9.kept : Int)] 82)) = w5 from hw5]
  have D1 := D5
  clear hkb hw5 D5
  have hkb2 := lt_of_block X5.out
  have hs5 := D1.out.size
  obtain ⟨b3, h3b, hb3, hR3⟩ := rd_kb (kb := kb) Q3'.out hkb2
  have h3n : b3 ≠ w.heap.size + 2 := by
    rcases h3b with e | ⟨e1, e2⟩
    · omega
    · exact Rd.apart Q3'.out ⟨_, _, D1.out.Z, by simp [noU8], by decide⟩ e1 e2
  have hR3 := Lib.hid hR3
  have HN3 := Lib.hid h3b
  clear h3b
  have d9 : (0 : Int) == 0 := rfl
  refine wp_region_schedB [kb, b3] [(0, true), (1, true), (2, true), (3, true), (4, true), (5, true), (6, true), (7, true), (8, true), (9, true), (10, true), (11, true), (12, true), (13, false), (14, true), (15, true), (16, false), (17, true)] (by kernel_rfl) (by kernel_rfl) (fun _ _ d _ _ h => by cases d <;> exact h) ?_
  refine KB.lay (w0 := w5) (Below.refl _ _).drew (fun B0 => ?_)
  refine bwith (fun W hW => (cells7 ((hW kb (by simp)).trans X5.out)).1) (fun q => ?_)
  refine bwith (fun W hW => (K.strq (c := c3) (hR3.out W hW))) (fun qs => ?_)
  repeat (first | (refine sreadxB rfl rfl ?_; apply Exists.intro; apply And.intro; (· (intro W hW; first | (go_simp; done) | (go_simp; with_reducible rfl) | (go_simp; rw [if_neg (by omega)]; done) | (go_simp; rw [if_neg (by omega)]; with_reducible rfl))); simp only [Act.put, List.setIfInBounds_toArray, List.set_cons_zero, List.set_cons_succ]) | (refine bskip rfl rfl ?_; simp only [Act.put, List.setIfInBounds_toArray, List.set_cons_zero, List.set_cons_succ]))
  clear q qs
  refine bcall rfl rfl (fun K hK => ?_)
  go_simp
  refine (rsame_any _ _ _ _ _ _ rows xs4 _ (Q4'.out.next B0) (S4'.out.imp (SlU.keep (KeepU.of_below B0))) (R5'.out.next B0) hn4).mono ?_; rintro e w6 ⟨rfl, b6⟩
  go_wp2_with fail
  refine hK.out _ _ (by exact KB.of_below b6 (by simp; exact ⟨hkb2, hb3⟩)) ?_
  clear hK K
  try simp only [Act.put, List.setIfInBounds_toArray, List.set_cons_zero, List.set_cons_succ]
  have BW := bthen B0 b6
  have D6 := Lib.hid (D1.out.next BW)
  have Y6 := Lib.hid (Y5.out.below BW)
  clear b6 D1 Y5 X5 B0 BW
  have D1 := D6; clear D6
  obtain ⟨⟨d0, d1, d2, d3, d4, d5, d6⟩, e0, e1, e2, e3, e4, e5, e6⟩ := cells7 D1.out.Z
  have hkn : kb ≠ w.heap.size + 2 := by omega
  repeat (first | (refine sreadxB rfl rfl ?_; apply Exists.intro; apply And.intro; (· (intro W hW; first | (go_simp; done) | (go_simp; with_reducible rfl) | (go_simp; rw [if_neg (by omega)]; done) | (go_simp; rw [if_neg (by omega)]; with_reducible rfl))); simp only [Act.put, List.setIfInBounds_toArray, List.set_cons_zero, List.set_cons_succ]) | (refine bskip rfl rfl ?_; simp only [Act.put, List.setIfInBounds_toArray, List.set_cons_zero, List.set_cons_succ]))
  refine bcall rfl rfl (fun K hK => ?_)
  go_simp
  refine hK.out _ _ (fun k hk => ?_) ?_
  · simp at hk
    have hne : k ≠ w.heap.size + 2 := by rcases hk with e | e <;> omega
    repeat (first | (with_reducible rfl) | ((with_reducible refine (Below.heap_setCell _ _ _ _ ?_).trans ?_); (· exact hne)))
  clear hK K
  try simp only [Act.put, List.setIfInBounds_toArray, List.set_cons_zero, List.set_cons_succ]
  repeat (first | (refine sreadxB rfl rfl ?_; apply Exists.intro; apply And.intro; (· (intro W hW; first | (go_simp; done) | (go_simp; with_reducible rfl) | (go_simp; rw [if_neg (by omega)]; done) | (go_simp; rw [if_neg (by omega)]; with_reducible rfl))); simp only [Act.put, List.setIfInBounds_toArray, List.set_cons_zero, List.set_cons_succ]) | (refine bskip rfl rfl ?_; simp only [Act.put, List.setIfInBounds_toArray, List.set_cons_zero, List.set_cons_succ]))
  refine bdone ?_
  go_wp2_with fail
  refine bodyPost_ret (v := .tuple #[ptr lgn, .agg (lc x9 A7 c7 A7' c7'), .bool true]) (by simp [results, Try.results56, go_sem, d0, d1, d2, d3, d4, d5, d6]) rfl ?_
  refine D1.out.fin ?_ Y6.out (by simp [noU8]) (by simp [noU8])
  repeat (first | (with_reducible exact Box.refl _ _ _) | ((with_reducible refine Box.setCell ?_ ?_ ?_ _); rotate_left; (· omega); (· omega)) | (with_reducible refine Box.drew ?_))

theorem do4_any {w : World} {base g lg : Nat} {r : Option Nat} {x : LS} {v : Value} (o : D.Op) (A : Option Addr) (m c : Nat) (hl : LogAt w base g lg r x) (hv : LRefAt w g r v x) (hbase : base ≤ w.heap.size) (hb : Rd w base 1 A m (bv o.b)) (hm : m ≤ 1000) (hsm : Small x.s) :
    Calls Try.prog 56 #[ptr g, ptr lg, v, .agg #[.int .u64 (o.kind : Int), .int .i64 o.n, .slice A m c]] w (LDoPost base g lg r (x.step o) w) := by
  have hlt : o.kind % 8 < 8 := Nat.mod_lt _ (by omega)
  by_cases h2 : o.kind % 8 = 2
  · rw [show x.step o = (x.addKept o.b).1 by simp [LS.step, h2]]; exact do4_2 _ _ _ _ _ _ hl hv hbase hb hm hsm h2
  · by_cases h3 : o.kind % 8 = 3
    · rw [show x.step o = (x.keep o.n).1 by simp [LS.step, h3]]; exact do4_3 _ _ _ _ _ _ hl hv hbase hb hm hsm h3
    · by_cases h4 : o.kind % 8 = 4
      · rw [show x.step o = x.let_ o.n by simp [LS.step, h4]]; exact do4_4 _ _ _ _ _ _ hl hv hbase hb hm hsm h4
      · by_cases h5 : o.kind % 8 = 5
        · rw [show x.step o = x.sync by simp [LS.step, h5]]; exact do4_5 _ _ _ _ _ _ hl hv hbase hb hm hsm h5
        · by_cases h6 : o.kind % 8 = 6
          · rw [show x.step o = (x.check o.b).1 by simp [LS.step, h6]]; exact do4_6 _ _ _ _ _ _ hl hv hbase hb hm hsm h6
          · by_cases h7 : o.kind % 8 = 7
            · rw [show x.step o = openS (x.s.crash o.n) by simp [LS.step, h7]]; exact do4_7 _ _ _ _ _ _ hl hv hbase hb hm hsm h7
            · rw [show x.step o = (x.add o.b).1 by simp [LS.step, h2, h3, h4, h5, h6, h7]]; exact do4_0 _ _ _ _ _ _ hl hv hbase hb hm hsm (by omega)
end Go.Proofs.Ytkcehoejcklmfaa.L
