/- The contract of billhookref04.Open. -/
import Derived.Test.YtkcehoejcklmfaaWalRefL2
namespace Go.Proofs.Ytkcehoejcklmfaa.L
open Go.RowKit O D K

theorem noB3 {w : World} {N : Nat} {a b c : Array Value} {t1 t2 t3 : TypeId} (q1 : w.heap[N]? = some (.cells a t1 (0, 0))) (q2 : w.heap[N + 1]? = some (.cells b t2 (0, 0))) (q3 : w.heap[N + 2]? = some (.cells c t3 (0, 0)))
    (n1 : ∀ v ∈ a, noU8 v = true) (n2 : ∀ v ∈ b, noU8 v = true) (n3 : ∀ v ∈ c, noU8 v = true) (h1 : t1 ≠ 9) (h2 : t2 ≠ 9) (h3 : t3 ≠ 9) : ∀ k, N ≤ k → k < N + 3 → NoB w k := by
  intro k hk1 hk2
  have : k = N ∨ k = N + 1 ∨ k = N + 2 := by omega
  rcases this with rfl | rfl | rfl
  · exact ⟨_, _, q1, n1, h1⟩
  · exact ⟨_, _, q2, n2, h2⟩
  · exact ⟨_, _, q3, n3, h3⟩
theorem rdbox {w w' : World} {size n N m : Nat} {A : Option Addr} {xs : List Value} (h : Rd w w.heap.size size A n xs) (hb : Box N m w w') (ha : 0 < xs.length → ∀ b, blkOf A = some b → b < N ∨ N + m ≤ b) : Rd w' w'.heap.size size A n xs := by
  refine ⟨h.1, fun hp => ?_⟩
  obtain ⟨b, off, e, hlt, hc⟩ := h.2 hp
  exact ⟨b, off, e, by rw [hb.size]; exact hlt, fun j hj => (World.cell?_of_block (a := ⟨b, off + j, none⟩) (hb.block b (ha hp b (by rw [e]; rfl)))).trans (hc j hj)⟩
/-- Slots that are short. -/
def Small (s : St) : Prop := s.n0.length ≤ 1000000 ∧ s.n1.length ≤ 1000000 ∧ s.s0.length ≤ 1000000 ∧ s.s1.length ≤ 1000000
theorem small_new (room : Int) : Small (newS room) := ⟨by simp [newS], by simp [newS], by simp [newS], by simp [newS]⟩
theorem cutL_small (l : List D.Op) : ∀ o ∈ cutL l, o.b.length ≤ 200 := by
  intro o ho
  simp only [cutL, List.mem_map] at ho
  obtain ⟨p, _, rfl⟩ := ho
  simp [cutO]
  omega
theorem openD_take {s : St} (hok : s.ok) (hn : (scanS s).2 ≤ s.log.length) : openD s = ⟨s.room, s.log.take (scanS s).2, [], s.n0, s.n1, s.n0, s.n1⟩ := by
  unfold openD
  split
  · have hf : ¬ (s.clear.room < s.clear.log.length + (s.log.take (scanS s).2).length) := by
      have h1 := hok.2
      have h2 : s.clear.room = s.room := rfl
      have h3 : s.clear.log.length = 0 := by simp [St.clear, St.log]
      rw [List.length_take]
      omega
    unfold St.app
    rw [if_neg hf]
    simp [St.sync, St.clear, St.log]
  · rw [List.take_of_length_le (by omega)]
    simp [St.sync]
/-- What the reference's Open returns. -/
def RetLO (g : Nat) (r : Option Nat) (s : St) (w : World) (e : Ending) (w' : World) : Prop :=
  ∃ v A n c, e = .returned (.tuple #[v, str (optS (newTo s 2)), .slice A n c]) ∧ LRefAt w' g r v (openS s) ∧ Rd w' w'.heap.size 1 A n ((scanS s).1.map strV) ∧ n = (scanS s).1.length ∧ Below w.heap.size w w'
structure RO (w : World) (s : St) (A : Option Addr) (c : Nat) (A' : Option Addr) (c' : Nat) (gn : Int) (W : World) : Prop where
  d : W.heap[w.heap.size]? = some (.cells #[.int .i64 (s.room : Int), str s.sure, str s.rest, .slice A 2 c, .slice A' 2 c'] 27 (0, 0))
  z : W.heap[w.heap.size + 1]? = some (.cells #[.int .i64 0, str [], str [], .slice none 0 0, .slice none 0 0, .int .u32 0, .int .i64 0] 82 (0, 0))
  l : W.heap[w.heap.size + 2]? = some (.cells #[.int .i64 (s.room : Int), str s.sure, str s.rest, .slice A 2 c, .slice A' 2 c', .int .u32 gn, .int .i64 0] 82 (0, 0))
  b : Below w.heap.size w W
section
variable {w W W' : World} {s : St} {A A' : Option Addr} {c c' : Nat} {gn : Int}
theorem RO.next (h : RO w s A c A' c' gn W) (b : Below W.heap.size W W') : RO w s A c A' c' gn W' := ⟨blk_old b h.d, blk_old b h.z, blk_old b h.l, bthen h.b b⟩
theorem RO.start (w : World) : RO w s A c A' c' 0 (((w.alloc (.cells #[.int .i64 (s.room : Int), str s.sure, str s.rest, .slice A 2 c, .slice A' 2 c'] 27)).alloc (.cells #[.int .i64 0, str [], str [], .slice none 0 0, .slice none 0 0, .int .u32 0, .int .i64 0] 82)).alloc
    (.cells #[.int .i64 (s.room : Int), str s.sure, str s.rest, .slice A 2 c, .slice A' 2 c', .int .u32 0, .int .i64 0] 82)) := by
  refine ⟨blk_alloc (blk_alloc (blk_new w _) _) _, ?_, ?_, (((Below.refl _ _).alloc (Nat.le_refl _) _).alloc (by simp) _).alloc (by simp; omega) _⟩
  · have := blk_alloc (blk_new (w.alloc (.cells #[.int .i64 (s.room : Int), str s.sure, str s.rest, .slice A 2 c, .slice A' 2 c'] 27)) (.cells #[.int .i64 0, str [], str [], .slice none 0 0, .slice none 0 0, .int .u32 0, .int .i64 0] 82)) (.cells #[.int .i64 (s.room : Int), str s.sure, str s.rest, .slice A 2 c, .slice A' 2 c', .int .u32 0, .int .i64 0] 82)
    simpa using this
  · have := blk_new ((w.alloc (.cells #[.int .i64 (s.room : Int), str s.sure, str s.rest, .slice A 2 c, .slice A' 2 c'] 27)).alloc (.cells #[.int .i64 0, str [], str [], .slice none 0 0, .slice none 0 0, .int .u32 0, .int .i64 0] 82)) (.cells #[.int .i64 (s.room : Int), str s.sure, str s.rest, .slice A 2 c, .slice A' 2 c', .int .u32 0, .int .i64 0] 82)
    simpa using this
theorem RO.gen (h : RO w s A c A' c' gn W) (gm : Int) : RO w s A c A' c' gm (W.setCell ⟨w.heap.size + 2, 5, none⟩ (.int .u32 gm)) :=
  ⟨(Below.heap_setCell _ _ _ _ (show w.heap.size ≠ w.heap.size + 2 by omega)).trans h.d, (Below.heap_setCell _ _ _ _ (show w.heap.size + 1 ≠ w.heap.size + 2 by omega)).trans h.z, row_setCell h.l, h.b.setCell (show w.heap.size ≤ w.heap.size + 2 by omega) _⟩
end

set_option maxRecDepth 100000 in
set_option maxHeartbeats 4000000 in
theorem rlopen_any {w : World} {g : Nat} {r : Option Nat} {s : St} {v : Value} (h : RefAt w g r v s) (ho : s.ok) (h0 : s.n0.length ≤ 10000000) (h1 : s.n1.length ≤ 10000000) :
    Calls Try.prog 55 #[v] w (RetLO g r s w) := by
  have hsl : ∀ k, (slotN s k).length ≤ 10000000 := fun k => by unfold slotN; split <;> omega
  have hgn := newTo_lt h0 h1 2
  have hll : s.log.length ≤ 1048576 := by have := ho.1; have := ho.2; omega
  obtain ⟨A, c, A', c', rfl, t1, t2⟩ := h
  have hR : ∀ W, Below w.heap.size w W → RefAt W g r (.agg #[.int .i64 (s.room : Int), str s.sure, str s.rest, .slice A 2 c, .slice A' 2 c']) s := fun W b => ⟨A, c, A', c', rfl, t1.below b, t2.below b⟩
  obtain ⟨ka, off, rfl, hka, y0, y1⟩ := t1.at_
  have hsc := scan_le (l := s.log) (g := genS s) (by omega) (s.log.length + 1 - 0) 0 (Nat.zero_le _)
  have hD := openD_take ho hsc
  have X0 := Lib.hid (RO.start (s := s) (A := some ⟨ka, off, none⟩) (c := c) (A' := A') (c' := c') w)
  have Hhsl := Lib.hid hsl; clear hsl
  have HhR := Lib.hid hR; clear hR
  have Ht1 := Lib.hid t1; clear t1
  have Ht2 := Lib.hid t2; clear t2
  have Hy0 := Lib.hid y0; clear y0
  have Hy1 := Lib.hid y1; clear y1
  have HhD := Lib.hid hD; clear hD
  have Hho := Lib.hid ho; clear ho
  have Hhgn := Lib.hid hgn; clear hgn
  have HS := Lib.hid hsc; clear hsc
  go_enter Try.func55, Try.ntmps55
  go_wp2_with fail
  go_loopw [6, 7, 20] (fun S B i wr => ∃ k : Nat, k ≤ 2 ∧ i = .int .i64 (k : Int) ∧ S = .string ⟨(optS (newTo s k)).toArray⟩ ∧ B = .bool (newTo s k).isSome ∧ Hid (RO w s (some ⟨ka, off, none⟩) c A' c' (optG (newTo s k) : Int) wr)) (fun _ _ i _ => 2 - (intOf i).toNat)
  case atStart => exact ⟨0, by omega, rfl, rfl, rfl, X0⟩
  case round =>
    obtain ⟨k, hk, rfl, rfl, rfl, X⟩ := hrel
    clear X0
    by_cases hk2 : k < 2
    · have e1 : wr.cell? ⟨ka, off + k, none⟩ = some (.string ⟨(slotN s k).toArray⟩) := by
        have q0 := (X.out.b.cell (p := ⟨ka, off, none⟩) hka).trans Hy0.out
        have q1 := (X.out.b.cell (p := ⟨ka, off + 1, none⟩) hka).trans Hy1.out
        have h01 : k = 0 ∨ k = 1 := by omega
        rcases h01 with rfl | rfl
        · exact q0
        · exact q1
      have i1 : (0 : Int) ≤ (k : Int) := by omega
      have i2 : (k : Int) < 2 := by omega
      go_wp2_with fail
      refine (rimage_any (slotN s k) _ (Hhsl.out k)).mono ?_; rintro e w1 ⟨rfl, b1⟩
      have X1 := Lib.hid (X.out.next b1)
      have E := Lib.hid (show newTo s (k + 1) = newer (newTo s k) (imageOf (slotN s k)) from rfl)
      clear b1 X e1
      generalize newTo s k = x at *
      generalize imageOf (slotN s k) = y at *
      obtain ⟨⟨a0, a1, a2, a3, a4, a5, a6⟩, z0, z1, z2, z3, z4, z5, z6⟩ := cells7 X1.out.l
      cases y with
      | none =>
        simp only [resM]
        go_wp2_with fail
        go_roundw
        case rel =>
          have e : newTo s (k + 1) = x := E.out
          exact ⟨k + 1, by omega, by go_num, by rw [e], by rw [e], by rw [e]; exact X1⟩
        case measure => simp [intOf]; omega
      | some y =>
        obtain ⟨g1, s1⟩ := y
        simp only [resM]
        cases x with
        | none =>
          go_wp2_with fail
          go_roundw
          case rel =>
            have e : newTo s (k + 1) = some (g1, s1) := E.out
            exact ⟨k + 1, by omega, by go_num, by (rw [e]; try rfl), by (rw [e]; try rfl), by rw [e]; exact Lib.hid (X1.out.gen _)⟩
          case measure => simp [intOf]; omega
        | some x =>
          obtain ⟨g2, s2⟩ := x
          have e1 : optG (some (g2, s2)) = g2 := rfl
          rw [e1] at a5
          by_cases hlt : g2 < g1
          · have hE := Lib.hid (show newTo s (k + 1) = some (g1, s1) from E.out.trans (if_pos hlt))
            go_wp2_with fail
            go_roundw
            case rel =>
              have e := hE.out
              exact ⟨k + 1, by omega, by go_num, by (rw [e]; try rfl), by (rw [e]; try rfl), by rw [e]; exact Lib.hid (X1.out.gen _)⟩
            case measure => simp [intOf]; omega
          · have hE := Lib.hid (show newTo s (k + 1) = some (g2, s2) from E.out.trans (if_neg hlt))
            go_wp2_with fail
            go_roundw
            case rel =>
              have e := hE.out
              exact ⟨k + 1, by omega, by go_num, by rw [e], by (rw [e]; try rfl), by rw [e]; exact X1⟩
            case measure => simp [intOf]; omega
    · obtain rfl : k = 2 := by omega
      have hgn := Hhgn.out
      have hcut := HS.out
      have hsc2 : scanFrom s.log (optG (newTo s 2)) 0 = scanS s := rfl
      have hsl2 : (scanS s).2 ≤ s.log.length := hcut
      have hG : genS s = optG (newTo s 2) := rfl
      clear hk2 hk Hhsl hcut HS
      have HG := Lib.hid hG
      have HSC := Lib.hid hsc2
      clear hG hsc2
      generalize hg2 : optG (newTo s 2) = gn at *
      obtain ⟨⟨a0, a1, a2, a3, a4, a5, a6⟩, -⟩ := cells7 X.out.l
      obtain ⟨⟨d0, d1, d2, d3, d4⟩, -⟩ := cells5 X.out.d
      go_wp2_with fail
      refine wp_region_sched [(0, true), (2, true), (3, true), (1, false), (4, false), (5, true), (6, true), (7, true), (8, true), (9, true)] (by kernel_rfl) (by kernel_rfl) (fun _ _ d _ _ h => by cases d <;> exact h) ?_
      refine sbelow (w0 := wr) (Below.refl _ _).drew (fun B0 => ?_)
      refine swith (fun W hW => (cells7 (X.out.next (bthen B0 hW.out)).l).1) (fun q => ?_)
      refine swith (fun W hW => (cells5 (X.out.next (bthen B0 hW.out)).d).1) (fun qd => ?_)
      repeat (first | (refine sreadx rfl rfl ?_; apply Exists.intro; apply And.intro; (· (intro W hW; first | (go_simp; done) | (go_simp; with_reducible rfl) | (go_simp; rw [if_neg (by omega)]; done) | (go_simp; rw [if_neg (by omega)]; with_reducible rfl))); simp only [Act.put, List.setIfInBounds_toArray, List.set_cons_zero, List.set_cons_succ]) | (refine sskip rfl rfl ?_; simp only [Act.put, List.setIfInBounds_toArray, List.set_cons_zero, List.set_cons_succ]))
      refine scall rfl rfl (fun K hK => ?_)
      go_simp
      refine (rlog_any (HhR.out _ (bthen X.out.b B0)) Hho.out).mono ?_; rintro e w1 ⟨rfl, b1⟩
      go_wp2_with fail
      refine hK.out _ _ (by exact b1) ?_
      clear hK K
      try simp only [Act.put, List.setIfInBounds_toArray, List.set_cons_zero, List.set_cons_succ]
      replace q := fun (W : World) (hW : Grow w1 W) => q W (Grow.trans (b1) hW)
      replace qd := fun (W : World) (hW : Grow w1 W) => qd W (Grow.trans (b1) hW)
      have B1 := bthen B0 b1
      clear b1
      repeat (first | (refine sreadx rfl rfl ?_; apply Exists.intro; apply And.intro; (· (intro W hW; first | (go_simp; done) | (go_simp; with_reducible rfl) | (go_simp; rw [if_neg (by omega)]; done) | (go_simp; rw [if_neg (by omega)]; with_reducible rfl))); simp only [Act.put, List.setIfInBounds_toArray, List.set_cons_zero, List.set_cons_succ]) | (refine sskip rfl rfl ?_; simp only [Act.put, List.setIfInBounds_toArray, List.set_cons_zero, List.set_cons_succ]))
      refine scall rfl rfl (fun K hK => ?_)
      go_simp
      refine (rscan_any s.log gn _ (by omega) hgn).mono ?_; rintro e w2 ⟨A2, n2, c2, rfl, o2, b2⟩
      go_wp2_with fail
      refine hK.out _ _ (by exact b2) ?_
      clear hK K
      try simp only [Act.put, List.setIfInBounds_toArray, List.set_cons_zero, List.set_cons_succ]
      replace q := fun (W : World) (hW : Grow w2 W) => q W (Grow.trans (b2) hW)
      replace qd := fun (W : World) (hW : Grow w2 W) => qd W (Grow.trans (b2) hW)
      have B2 := bthen B1 b2
      clear b2
      repeat (first | (refine sreadx rfl rfl ?_; apply Exists.intro; apply And.intro; (· (intro W hW; first | (go_simp; done) | (go_simp; with_reducible rfl) | (go_simp; rw [if_neg (by omega)]; done) | (go_simp; rw [if_neg (by omega)]; with_reducible rfl))); simp only [Act.put, List.setIfInBounds_toArray, List.set_cons_zero, List.set_cons_succ]) | (refine sskip rfl rfl ?_; simp only [Act.put, List.setIfInBounds_toArray, List.set_cons_zero, List.set_cons_succ]))
      refine sdone ?_
      clear q qd a0 a1 a2 a3 a4 a5 a6 d0 d1 d2 d3 d4
      rw [HSC.out] at o2 ⊢
      have X2 := Lib.hid (X.out.next B2)
      have ow := Lib.hid o2
      have hA2 : ∀ b, blkOf A2 = some b → w1.heap.size ≤ b := fun b hb => (o2.lt b (by rw [own_blk]; exact hb)).1
      have hw1 : w.heap.size + 3 ≤ w1.heap.size := Nat.le_trans (lt_of_block X.out.l) B1.size
      have hn2 : (scanS s).1.length = n2 := by have := o2.1; simpa using this
      clear X B0 B1 B2 o2
      generalize hsn : (scanS s).2 = nn at *
      obtain ⟨⟨d0, d1, d2, d3, d4⟩, -⟩ := cells5 X2.out.d
      obtain ⟨⟨a0, a1, a2, a3, a4, a5, a6⟩, z0, z1, z2, z3, z4, z5, z6⟩ := cells7 X2.out.l
      go_wp2_with fail
      refine (rlog_any (HhR.out _ X2.out.b) Hho.out).mono ?_; rintro e w3 ⟨rfl, b3⟩
      have X3 := Lib.hid (X2.out.next b3)
      have rw3 := Lib.hid ((Rd.of_own ow.out).next b3)
      clear b3 X2 ow d0 d1 d2 d3 d4 a0 a1 a2 a3 a4 a5 a6 z0 z1 z2 z3 z4 z5 z6
      obtain ⟨⟨d0, d1, d2, d3, d4⟩, -⟩ := cells5 X3.out.d
      obtain ⟨⟨a0, a1, a2, a3, a4, a5, a6⟩, z0, z1, z2, z3, z4, z5, z6⟩ := cells7 X3.out.l
      obtain ⟨⟨p0, p1, p2, p3, p4, p5, p6⟩, y0, y1, y2, y3, y4, y5, y6⟩ := cells7 X3.out.z
      have hx := ba_take s.log nn
      go_wp2_with fail
      refine bodyPost_ret (v := .tuple #[.agg #[.int .i64 (s.room : Int), str (s.log.take nn), str [], .slice (some ⟨ka, off, none⟩) 2 c, .slice (some ⟨ka, off, none⟩) 2 c, .int .u32 (gn : Int), .int .i64 0], str (optS (newTo s 2)), .slice A2 n2 c2]) (by simp [results, Try.results55, go_sem, p0, p1, p2, p3, p4, p5, p6]) rfl ?_
      have K3 : Keep3 g r (some ⟨ka, off, none⟩) s.n0 s.n1 (some ⟨ka, off, none⟩) s.n0 s.n1 w.heap.size (w.heap.size + 1) (w.heap.size + 2) w3 :=
        ⟨Ht1.out.below X3.out.b, Ht1.out.below X3.out.b, ⟨_, _, X3.out.d, by simp [noU8], by decide⟩, ⟨_, _, X3.out.z, by simp [noU8], by decide⟩, ⟨_, _, X3.out.l, by simp [noU8], by decide⟩⟩
      have bb := X3.out.b
      have hO : openS s = ⟨⟨s.room, s.log.take nn, [], s.n0, s.n1, s.n0, s.n1⟩, gn, 0⟩ := by
        unfold openS
        rw [HhD.out, HG.out]
      refine ⟨_, A2, n2, c2, rfl, ⟨some ⟨ka, off, none⟩, c, some ⟨ka, off, none⟩, c, (by rw [hO]; rfl), ?_, ?_⟩, ?_, hn2.symm, ?_⟩
      · rw [hO]
        refine Keep3.t1 (A' := some ⟨ka, off, none⟩) (a' := s.n0) (b' := s.n1) (k1 := w.heap.size) (k2 := w.heap.size + 1) (k3 := w.heap.size + 2) ?_
        repeat (first | (with_reducible exact K3) | ((with_reducible refine Keep3.setCell ?_ rfl ?_); rotate_left; (· simp)))
      · rw [hO]
        refine Keep3.t1 (A' := some ⟨ka, off, none⟩) (a' := s.n0) (b' := s.n1) (k1 := w.heap.size) (k2 := w.heap.size + 1) (k3 := w.heap.size + 2) ?_
        repeat (first | (with_reducible exact K3) | ((with_reducible refine Keep3.setCell ?_ rfl ?_); rotate_left; (· simp)))
      · refine rdbox (N := w.heap.size) (m := 3) rw3.out ?_ (fun _ b hb => .inr (by have := hA2 b hb; omega))
        repeat (first | (with_reducible exact Box.refl _ _ _) | ((with_reducible refine Box.setCell ?_ ?_ ?_ _); rotate_left; (· omega); (· omega)) | (with_reducible refine Box.drew ?_))
      · repeat (first | (with_reducible exact bb) | ((with_reducible refine Below.setCell ?_ ?_ _); rotate_left; (· (simp <;> omega))) | ((with_reducible refine Below.alloc ?_ ?_ _); rotate_left; (· (simp <;> omega))) | (with_reducible refine Below.drew ?_))
end Go.Proofs.Ytkcehoejcklmfaa.L
