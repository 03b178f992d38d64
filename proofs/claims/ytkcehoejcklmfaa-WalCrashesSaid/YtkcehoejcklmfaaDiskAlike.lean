/- billhooklaw03's alike. -/
import Derived.Test.YtkcehoejcklmfaaDiskDo
namespace Go.Proofs.Ytkcehoejcklmfaa.K
open Go.RowKit D O

theorem rd_zero {w : World} {B n : Nat} {A : Option Addr} (h : Rd w B 1 A n (bv [])) : n = 0 := by have := h.1; simpa using this.symm

set_option maxRecDepth 100000 in
set_option maxHeartbeats 4000000 in
theorem alike_any {w : World} {base g : Nat} {r : Option Nat} {s : St} {v : Value} (hd : DiskAt w base g r s) (hx : RefAt w g r v s) (h0 : s.n0.length ≤ 1000000) (h1 : s.n1.length ≤ 1000000) :
    Calls Try.prog 26 #[ptr g, v] w fun e w' => e = .returned (.bool true) ∧ Below w.heap.size w w' := by
  have ho := hd.ok
  have HX := Lib.hid hx
  obtain ⟨A1, c1, A1', c1', rfl, hz1, hz2⟩ := hx
  obtain ⟨k1, off1, rfl, hk1, q0, q1⟩ := hz1.at_
  have HD := Lib.hid hd; clear hd
  have hlog : s.log.length ≤ 1048576 := by have := ho.1; have := ho.2; omega
  have hroom : s.room ≤ 1048576 := ho.1
  have hw : IntKind.i64.wrap ((s.room : Int) - (s.log.length : Int)) = (s.room : Int) - (s.log.length : Int) := IntWalk.i64_in _ (by omega)
  have Hhz1 := Lib.hid hz1; clear hz1
  have Hhz2 := Lib.hid hz2; clear hz2
  have Hho := Lib.hid ho; clear ho
  have Hq0 := Lib.hid q0; clear q0
  have Hq1 := Lib.hid q1; clear q1
  go_enter Try.func26, Try.ntmps26
  go_wp2_with fail
  refine wp_region_sched [(0, true), (3, true), (1, false), (2, true), (4, false), (5, true), (6, true), (7, true), (9, true), (10, true), (11, true), (8, false), (12, true), (13, true), (14, true), (15, true), (17, true), (18, true), (19, true), (16, false), (20, false), (21, true), (22, true), (23, true), (24, true), (25, true), (26, true), (29, true), (30, true), (31, true), (32, true), (27, false), (28, true), (33, true), (34, true), (35, true), (36, true), (39, true), (40, true), (41, true), (42, true), (37, false), (38, true), (43, true), (44, true), (45, true), (46, true), (49, true), (47, false), (48, true), (50, false), (51, true), (52, true), (53, true), (54, true), (55, true)] (by kernel_rfl) (by kernel_rfl) (fun _ _ d _ _ h => by cases d <;> exact h) ?_
  refine sbelow (w0 := w) (((Below.refl _ _).alloc (Nat.le_refl _) _).drew) (fun B0 => ?_)
  refine swith (fun W hW => (cells5 (blk_old hW.out (blk_new w _))).1) (fun q => ?_)
  refine swith (fun W hW => (And.intro (((bthen B0 hW.out).cell (p := ⟨k1, off1, none⟩) hk1).trans Hq0.out) (((bthen B0 hW.out).cell (p := ⟨k1, off1 + 1, none⟩) hk1).trans Hq1.out))) (fun qr => ?_)
  repeat (first | (refine sreadx rfl rfl ?_; apply Exists.intro; apply And.intro; (· (intro W hW; first | (go_simp; done) | (go_simp; with_reducible rfl) | (go_simp; rw [if_neg (by omega)]; done) | (go_simp; rw [if_neg (by omega)]; with_reducible rfl))); simp only [Act.put, List.setIfInBounds_toArray, List.set_cons_zero, List.set_cons_succ]) | (refine sskip rfl rfl ?_; simp only [Act.put, List.setIfInBounds_toArray, List.set_cons_zero, List.set_cons_succ]))
  refine scall rfl rfl (fun K hK => ?_)
  go_simp
  refine (log_any (HD.out.below B0)).mono ?_; rintro e w1 ⟨A2, n2, c2, rfl, o2, b1⟩
  go_wp2_with fail
  refine hK.out _ _ (by exact b1) ?_
  clear hK K
  try simp only [Act.put, List.setIfInBounds_toArray, List.set_cons_zero, List.set_cons_succ]
  replace q := fun (W : World) (hW : Grow w1 W) => q W (Grow.trans (b1) hW)
  replace qr := fun (W : World) (hW : Grow w1 W) => qr W (Grow.trans (b1) hW)
  have B1 := bthen B0 b1
  refine swith (fun W hW => (strq (c := c2) ((Rd.of_own o2).next hW.out))) (fun s2 => ?_)
  clear b1
  repeat (first | (refine sreadx rfl rfl ?_; apply Exists.intro; apply And.intro; (· (intro W hW; first | (go_simp; done) | (go_simp; with_reducible rfl) | (go_simp; rw [if_neg (by omega)]; done) | (go_simp; rw [if_neg (by omega)]; with_reducible rfl))); simp only [Act.put, List.setIfInBounds_toArray, List.set_cons_zero, List.set_cons_succ]) | (refine sskip rfl rfl ?_; simp only [Act.put, List.setIfInBounds_toArray, List.set_cons_zero, List.set_cons_succ]))
  refine scall rfl rfl (fun K hK => ?_)
  go_simp
  refine (rlog_any (HX.out.below B1) Hho.out).mono ?_; rintro e w2 ⟨rfl, b2⟩
  go_wp2_with fail
  refine hK.out _ _ (by exact b2) ?_
  clear hK K
  try simp only [Act.put, List.setIfInBounds_toArray, List.set_cons_zero, List.set_cons_succ]
  replace q := fun (W : World) (hW : Grow w2 W) => q W (Grow.trans (b2) hW)
  replace qr := fun (W : World) (hW : Grow w2 W) => qr W (Grow.trans (b2) hW)
  replace s2 := fun (W : World) (hW : Grow w2 W) => s2 W (Grow.trans (b2) hW)
  have B2 := bthen B1 b2
  clear b2
  repeat (first | (refine sreadx rfl rfl ?_; apply Exists.intro; apply And.intro; (· (intro W hW; first | (go_simp; done) | (go_simp; with_reducible rfl) | (go_simp; rw [if_neg (by omega)]; done) | (go_simp; rw [if_neg (by omega)]; with_reducible rfl))); simp only [Act.put, List.setIfInBounds_toArray, List.set_cons_zero, List.set_cons_succ]) | (refine sskip rfl rfl ?_; simp only [Act.put, List.setIfInBounds_toArray, List.set_cons_zero, List.set_cons_succ]))
  refine scall rfl rfl (fun K hK => ?_)
  go_simp
  refine (sure_any (HD.out.below B2)).mono ?_; rintro e w3 ⟨rfl, b3⟩
  go_wp2_with fail
  refine hK.out _ _ (by exact b3) ?_
  clear hK K
  try simp only [Act.put, List.setIfInBounds_toArray, List.set_cons_zero, List.set_cons_succ]
  replace q := fun (W : World) (hW : Grow w3 W) => q W (Grow.trans (b3) hW)
  replace qr := fun (W : World) (hW : Grow w3 W) => qr W (Grow.trans (b3) hW)
  have B3 := bthen B2 b3
  clear b3 s2
  repeat (first | (refine sreadx rfl rfl ?_; apply Exists.intro; apply And.intro; (· (intro W hW; first | (go_simp; done) | (go_simp; with_reducible rfl) | (go_simp; rw [if_neg (by omega)]; done) | (go_simp; rw [if_neg (by omega)]; with_reducible rfl))); simp only [Act.put, List.setIfInBounds_toArray, List.set_cons_zero, List.set_cons_succ]) | (refine sskip rfl rfl ?_; simp only [Act.put, List.setIfInBounds_toArray, List.set_cons_zero, List.set_cons_succ]))
  refine scall rfl rfl (fun K hK => ?_)
  go_simp
  refine (room_any' (HD.out.below B3)).mono ?_; rintro e w4 ⟨rfl, b4⟩
  go_wp2_with fail
  refine hK.out _ _ (by exact b4) ?_
  clear hK K
  try simp only [Act.put, List.setIfInBounds_toArray, List.set_cons_zero, List.set_cons_succ]
  replace q := fun (W : World) (hW : Grow w4 W) => q W (Grow.trans (b4) hW)
  replace qr := fun (W : World) (hW : Grow w4 W) => qr W (Grow.trans (b4) hW)
  have B4 := bthen B3 b4
  clear b4
  repeat (first | (refine sreadx rfl rfl ?_; apply Exists.intro; apply And.intro; (· (intro W hW; first | (go_simp; done) | (go_simp; with_reducible rfl) | (go_simp; rw [if_neg (by omega)]; done) | (go_simp; rw [if_neg (by omega)]; with_reducible rfl))); simp only [Act.put, List.setIfInBounds_toArray, List.set_cons_zero, List.set_cons_succ]) | (refine sskip rfl rfl ?_; simp only [Act.put, List.setIfInBounds_toArray, List.set_cons_zero, List.set_cons_succ]))
  refine scall rfl rfl (fun K hK => ?_)
  go_simp
  refine (rlog_any (HX.out.below B4) Hho.out).mono ?_; rintro e w5 ⟨rfl, b5⟩
  go_wp2_with fail
  refine hK.out _ _ (by exact b5) ?_
  clear hK K
  try simp only [Act.put, List.setIfInBounds_toArray, List.set_cons_zero, List.set_cons_succ]
  replace q := fun (W : World) (hW : Grow w5 W) => q W (Grow.trans (b5) hW)
  replace qr := fun (W : World) (hW : Grow w5 W) => qr W (Grow.trans (b5) hW)
  have B5 := bthen B4 b5
  clear b5
  repeat (first | (refine sreadx rfl rfl ?_; apply Exists.intro; apply And.intro; (· (intro W hW; first | (go_simp; done) | (go_simp; with_reducible rfl) | (go_simp; rw [if_neg (by omega)]; done) | (go_simp; rw [if_neg (by omega)]; with_reducible rfl))); simp only [Act.put, List.setIfInBounds_toArray, List.set_cons_zero, List.set_cons_succ]) | (refine sskip rfl rfl ?_; simp only [Act.put, List.setIfInBounds_toArray, List.set_cons_zero, List.set_cons_succ]))
  refine scall rfl rfl (fun K hK => ?_)
  go_simp
  refine (slot_any 0 (HD.out.below B5) h0 h1).mono ?_; rintro e w6 ⟨A6, n6, c6, rfl, r6, b6⟩
  go_wp2_with fail
  refine hK.out _ _ (by exact b6) ?_
  clear hK K
  try simp only [Act.put, List.setIfInBounds_toArray, List.set_cons_zero, List.set_cons_succ]
  replace q := fun (W : World) (hW : Grow w6 W) => q W (Grow.trans (b6) hW)
  replace qr := fun (W : World) (hW : Grow w6 W) => qr W (Grow.trans (b6) hW)
  have B6 := bthen B5 b6
  have e6 : slotL s 0 = s.n0 := rfl
  rw [e6] at r6
  clear e6 b6
  refine swith (fun W hW => (strq (c := c6) (r6.next hW.out))) (fun s6 => ?_)
  repeat (first | (refine sreadx rfl rfl ?_; apply Exists.intro; apply And.intro; (· (intro W hW; first | (go_simp; done) | (go_simp; with_reducible rfl) | (go_simp; rw [if_neg (by omega)]; done) | (go_simp; rw [if_neg (by omega)]; with_reducible rfl))); simp only [Act.put, List.setIfInBounds_toArray, List.set_cons_zero, List.set_cons_succ]) | (refine sskip rfl rfl ?_; simp only [Act.put, List.setIfInBounds_toArray, List.set_cons_zero, List.set_cons_succ]))
  clear s6
  refine scall rfl rfl (fun K hK => ?_)
  go_simp
  refine (slot_any 1 (HD.out.below B6) h0 h1).mono ?_; rintro e w7 ⟨A7, n7, c7, rfl, r7, b7⟩
  go_wp2_with fail
  refine hK.out _ _ (by exact b7) ?_
  clear hK K
  try simp only [Act.put, List.setIfInBounds_toArray, List.set_cons_zero, List.set_cons_succ]
  replace q := fun (W : World) (hW : Grow w7 W) => q W (Grow.trans (b7) hW)
  replace qr := fun (W : World) (hW : Grow w7 W) => qr W (Grow.trans (b7) hW)
  have B7 := bthen B6 b7
  have e7 : slotL s 1 = s.n1 := rfl
  rw [e7] at r7
  clear e7 b7
  refine swith (fun W hW => (strq (c := c7) (r7.next hW.out))) (fun s7 => ?_)
  repeat (first | (refine sreadx rfl rfl ?_; apply Exists.intro; apply And.intro; (· (intro W hW; first | (go_simp; done) | (go_simp; with_reducible rfl) | (go_simp; rw [if_neg (by omega)]; done) | (go_simp; rw [if_neg (by omega)]; with_reducible rfl))); simp only [Act.put, List.setIfInBounds_toArray, List.set_cons_zero, List.set_cons_succ]) | (refine sskip rfl rfl ?_; simp only [Act.put, List.setIfInBounds_toArray, List.set_cons_zero, List.set_cons_succ]))
  clear s7
  refine scall rfl rfl (fun K hK => ?_)
  go_simp
  refine (slot_any 2 (HD.out.below B7) h0 h1).mono ?_; rintro e w8 ⟨A8, n8, c8, rfl, r8, b8⟩
  go_wp2_with fail
  refine hK.out _ _ (by exact b8) ?_
  clear hK K
  try simp only [Act.put, List.setIfInBounds_toArray, List.set_cons_zero, List.set_cons_succ]
  replace q := fun (W : World) (hW : Grow w8 W) => q W (Grow.trans (b8) hW)
  replace qr := fun (W : World) (hW : Grow w8 W) => qr W (Grow.trans (b8) hW)
  have B8 := bthen B7 b8
  have e8 : slotL s 2 = [] := rfl
  rw [e8] at r8
  obtain rfl := rd_zero r8
  clear e8 b8
  repeat (first | (refine sreadx rfl rfl ?_; apply Exists.intro; apply And.intro; (· (intro W hW; first | (go_simp; done) | (go_simp; with_reducible rfl) | (go_simp; rw [if_neg (by omega)]; done) | (go_simp; rw [if_neg (by omega)]; with_reducible rfl))); simp only [Act.put, List.setIfInBounds_toArray, List.set_cons_zero, List.set_cons_succ]) | (refine sskip rfl rfl ?_; simp only [Act.put, List.setIfInBounds_toArray, List.set_cons_zero, List.set_cons_succ]))
  refine scall rfl rfl (fun K hK => ?_)
  go_simp
  refine (slot_any (-1) (HD.out.below B8) h0 h1).mono ?_; rintro e w9 ⟨A9, n9, c9, rfl, r9, b9⟩
  go_wp2_with fail
  refine hK.out _ _ (by exact b9) ?_
  clear hK K
  try simp only [Act.put, List.setIfInBounds_toArray, List.set_cons_zero, List.set_cons_succ]
  replace q := fun (W : World) (hW : Grow w9 W) => q W (Grow.trans (b9) hW)
  replace qr := fun (W : World) (hW : Grow w9 W) => qr W (Grow.trans (b9) hW)
  have B9 := bthen B8 b9
  have e9 : slotL s (-1) = [] := rfl
  rw [e9] at r9
  obtain rfl := rd_zero r9
  clear e9 b9
  repeat (first | (refine sreadx rfl rfl ?_; apply Exists.intro; apply And.intro; (· (intro W hW; first | (go_simp; done) | (go_simp; with_reducible rfl) | (go_simp; rw [if_neg (by omega)]; done) | (go_simp; rw [if_neg (by omega)]; with_reducible rfl))); simp only [Act.put, List.setIfInBounds_toArray, List.set_cons_zero, List.set_cons_succ]) | (refine sskip rfl rfl ?_; simp only [Act.put, List.setIfInBounds_toArray, List.set_cons_zero, List.set_cons_succ]))
  refine sdone ?_
  clear q qr hw
  go_wp2_with fail
  go_ret
  exact ⟨rfl, B9⟩
end Go.Proofs.Ytkcehoejcklmfaa.K
