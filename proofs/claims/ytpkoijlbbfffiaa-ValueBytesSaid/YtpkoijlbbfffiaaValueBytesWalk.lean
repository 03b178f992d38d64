/- ValueBytes' walk: for every value, every bytes and every place it returns true. -/
import Derived.Test.YtpkoijlbbfffiaaValGet
import Derived.Test.YtpkoijlbbfffiaaValPrint
import Derived.Test.YtpkoijlbbfffiaaValOpen
import Derived.Deep.DeepCutAuto
import Derived.IntWalk
namespace Go.Proofs.Ytpkoijlbbfffiaa.valueBytes
open Go.RowKit O V

theorem eql_yes (x : Val) (w : World) : (binOp .eql 23 (.agg #[.int .i64 x.k, .int .i64 x.n, .string ⟨x.s.toArray⟩]) (.agg #[.int .i64 x.k, .int .i64 x.n, .string ⟨x.s.toArray⟩])).run Try.prog w = .ok (.bool true) w := by
  go_simp
theorem getV_lt {l : List UInt8} {x : Int} {v : Val} {k : Nat} (h : getV l x = some (v, k)) : 0 ≤ x ∧ 0 < k ∧ x + k ≤ l.length := by
  unfold getV at h
  split at h
  · rename_i hx
    split at h
    · split at h
      · cases h
      · rename_i hu
        have := getUAt_lt hu
        cases h
        omega
    · split at h
      · split at h
        · cases h; omega
        · cases h
      · split at h
        · split at h
          · cases h
          · rename_i ht
            have := getTAt_len ht
            split at h
            · cases h; omega
            · cases h
        · cases h
  · cases h
theorem Rd.nil0 {w : World} {B n : Nat} {A : Option Addr} {l : List UInt8} (h : Rd w B 1 A n (bv l)) (hA : A = none) : n = 0 := by
  rcases Nat.eq_zero_or_pos n with h0 | h0
  · exact h0
  · obtain ⟨b, off, e, _⟩ := h.some_ (k := 0) h0
    rw [hA] at e; cases e
/-- The box of the law's own value, and two more. -/
def Bx (w : World) (x : Val) (W : World) : Prop := W.heap[w.heap.size]? = some (.cells #[.int .i64 x.k, .int .i64 x.n, .string ⟨x.s.toArray⟩] 23 (0, 0)) ∧ Below w.heap.size w W
theorem Bx.next {w W W' : World} {x : Val} (h : Bx w x W) (b : Below W.heap.size W W') : Bx w x W' := ⟨box_next h.1 b, bthen h.2 b⟩
set_option maxRecDepth 100000 in
set_option maxHeartbeats 4000000 in
theorem walk (v0 : Value) (x : Val) (A : Option Addr) (n ca : Nat) (l1 : List UInt8) (p : Int) (w : World) (h0 : IsVal v0 x) (h1 : IsB w A n ca l1) (hx0 : (Lit.int .i64 p).wf = true) :
    Calls Try.prog 9 #[v0, .slice A n ca, .int .i64 p] w fun e w' => e = .returned (.bool true) ∧ Below w.heap.size w w' := by
  obtain ⟨rfl, ox⟩ := h0
  obtain ⟨ra, hnc, hcm⟩ := h1
  have lx := ox.s
  unfold maxLen at hcm lx
  obtain ⟨ha1, ha2⟩ := bounds_i64 hx0
  clear hx0
  replace ra := ra.take_ 200
  obtain ⟨m, hm⟩ : ∃ m : Nat, min n 200 = m := ⟨_, rfl⟩
  rw [hm] at ra
  have ex : min (n : Int) 200 = (m : Int) := by omega
  have bx : (m : Int) ≤ (ca : Int) := by omega
  have hm2 : m ≤ 200 := by omega
  have hn9 : (n : Int) ≤ 9223372036854775807 := by omega
  generalize l1.take 200 = l at ra
  clear hm
  have hnil : A = none → m = 0 := Rd.nil0 ra
  have hll : l.length ≤ 200 := by have := ra.1; simp at this; omega
  simp only [vv]
  by_cases hx : (x.s.length : Int) ≤ 100
  · have lx' : x.s.length ≤ 100 := by omega
    have lput : (putV x).length ≤ 1000 := by
      unfold putV
      have := uintL_len10 (zig x.n) (zig_lt _ ox.n1 ox.n2)
      have := uintL_len10 x.s.length (by omega)
      unfold textL
      repeat' split
      all_goals simp
      all_goals omega
    cases hg : getV l p with
    | none =>
      have Hhg := Lib.hid hg; clear hg
      have Hra := Lib.hid ra
      clear ra
      go_enter Try.func9, Try.ntmps9
      go_wp2_with fail
      refine (light_any x _ (by omega)).mono ?_; rintro e w1 ⟨rfl, b1⟩
      have X1 : Bx w x w1 := ⟨box_next (alloc_at rfl) b1, bthen ((Below.refl _ _).alloc (Nat.le_refl _) _) b1⟩
      rw [show decide ((x.s.length : Int) ≤ 100) = true by simp; omega]
      clear b1
      have HX1 := Lib.hid X1; clear X1
      go_wp2_with fail
      refine (get_any A m ca p l _ (Hra.out.next HX1.out.2) (by omega) (by omega) (by omega)).mono ?_; rintro e w2 ⟨rfl, b2⟩
      rw [Hhg.out]
      simp only [resV, vv]
      have HX2 := Lib.hid (HX1.out.next b2)
      clear b2 HX1
      go_wp2_with fail
      refine (rget_any A m ca p l _ (Hra.out.next ((HX2.out.2).alloc (HX2.out.2).size _)) (by omega) (by omega) (by omega)).mono ?_; rintro e w3 ⟨rfl, b3⟩
      rw [Hhg.out]
      simp only [resRV, vv]
      have HX3 := Lib.hid ((HX2.out.next ((Below.refl _ _).alloc (Nat.le_refl _) _)).next b3)
      have HY3 := Lib.hid (box_next (alloc_at rfl) b3)
      have HW3 := Lib.hid (show w2.heap.size < w3.heap.size from Nat.lt_of_lt_of_le (by simp) b3.size)
      clear b3 HX2
      go_wp2_with fail
      refine wp_region_sched [(0, true), (1, true), (4, true), (5, true), (6, true), (2, false), (3, true), (7, false), (8, true), (9, true), (10, true), (11, true), (12, true), (13, true), (14, true), (15, true), (16, true), (17, true), (18, true), (19, true), (20, true), (21, true), (22, true), (23, true), (24, true), (25, true), (26, true), (27, true), (28, true), (29, true), (30, true), (31, true), (32, true), (33, true), (34, true), (35, true), (36, true), (37, true), (38, true), (39, true), (40, true), (41, false), (42, true), (43, true)] (by kernel_rfl) (by kernel_rfl) (fun _ _ d _ _ h => by cases d <;> exact h) ?_
      have B0 : Below w3.heap.size w3 (w3.alloc (.cells #[.int .i64 0, .int .i64 0, .string ⟨#[]⟩] 23)).drew := ((Below.refl _ _).alloc (Nat.le_refl _) _).drew
      have X4 := HX3.out.next B0
      have Y4 := box_next HY3.out B0
      have Z4 : (w3.alloc (.cells #[.int .i64 0, .int .i64 0, .string ⟨#[]⟩] 23)).drew.heap[w3.heap.size]? = some (.cells #[.int .i64 0, .int .i64 0, .string ⟨#[]⟩] 23 (0, 0)) := alloc_at rfl
      refine swith (fun W hW => (cells3 (box_next X4.1 hW.out))) (fun qx => ?_)
      refine swith (fun W hW => (cells3 (box_next Y4 hW.out))) (fun qy => ?_)
      refine swith (fun W hW => (cells3 (box_next Z4 hW.out))) (fun qz => ?_)
      refine swith (fun W hW => (strq (c := ca) ((Hra.out.next X4.2).next hW.out))) (fun qb => ?_)
      have Hz : w3.heap.size = w3.heap.size := rfl
      clear Hz
      repeat (first | (refine sreadx rfl rfl ?_; apply Exists.intro; apply And.intro; (· (intro W hW; first | (go_simp; done) | (go_simp; with_reducible rfl) | (go_simp; rw [if_neg (by omega)]; done) | (go_simp; rw [if_neg (by omega)]; with_reducible rfl))); simp only [Act.put, List.setIfInBounds_toArray, List.set_cons_zero, List.set_cons_succ]) | (refine sskip rfl rfl ?_; simp only [Act.put, List.setIfInBounds_toArray, List.set_cons_zero, List.set_cons_succ]))
      refine scall rfl rfl (fun K hK => ?_)
      go_simp
      refine (put_any A m ca l x _ (Hra.out.next X4.2) (by omega) hnil (by omega) ox.n1 ox.n2).mono ?_; rintro e w5 ⟨A5, n5, c5, rfl, o5, b5⟩
      go_wp2_with fail
      refine hK.out _ _ (by exact b5) ?_
      clear hK K
      try simp only [Act.put, List.setIfInBounds_toArray, List.set_cons_zero, List.set_cons_succ]
      replace qx := fun (W : World) (hW : Grow w5 W) => qx W (Grow.trans (b5) hW)
      replace qy := fun (W : World) (hW : Grow w5 W) => qy W (Grow.trans (b5) hW)
      replace qz := fun (W : World) (hW : Grow w5 W) => qz W (Grow.trans (b5) hW)
      replace qb := fun (W : World) (hW : Grow w5 W) => qb W (Grow.trans (b5) hW)
      have B5 := bthen X4.2 b5
      refine swith (fun W hW => (strq (c := c5) ((Rd.of_own o5).next hW.out))) (fun q5 => ?_)
      repeat (first | (refine sreadx rfl rfl ?_; apply Exists.intro; apply And.intro; (· (intro W hW; first | (go_simp; done) | (go_simp; with_reducible rfl) | (go_simp; rw [if_neg (by omega)]; done) | (go_simp; rw [if_neg (by omega)]; with_reducible rfl))); simp only [Act.put, List.setIfInBounds_toArray, List.set_cons_zero, List.set_cons_succ]) | (refine sskip rfl rfl ?_; simp only [Act.put, List.setIfInBounds_toArray, List.set_cons_zero, List.set_cons_succ]))
      refine scall rfl rfl (fun K hK => ?_)
      go_simp
      refine (rbytes_any x _ (by omega) ox.n1 ox.n2).mono ?_; rintro e w6 ⟨A6, n6, c6, rfl, o6, b6⟩
      go_wp2_with fail
      refine hK.out _ _ (by exact b6) ?_
      clear hK K
      try simp only [Act.put, List.setIfInBounds_toArray, List.set_cons_zero, List.set_cons_succ]
      replace qx := fun (W : World) (hW : Grow w6 W) => qx W (Grow.trans (b6) hW)
      replace qy := fun (W : World) (hW : Grow w6 W) => qy W (Grow.trans (b6) hW)
      replace qz := fun (W : World) (hW : Grow w6 W) => qz W (Grow.trans (b6) hW)
      replace qb := fun (W : World) (hW : Grow w6 W) => qb W (Grow.trans (b6) hW)
      replace q5 := fun (W : World) (hW : Grow w6 W) => q5 W (Grow.trans (b6) hW)
      have B6 := bthen B5 b6
      refine swith (fun W hW => (strq (c := c6) ((Rd.of_own o6).next hW.out))) (fun q6 => ?_)
      have qe := fun (w : World) => eql_yes ⟨0, 0, []⟩ w
      have hq : ((ByteArray.mk l.toArray) ++ (ByteArray.mk (putV x).toArray)).toList = l ++ putV x := by rw [ba_append, ByteArray.toList_eq]
      repeat (first | (refine sreadx rfl rfl ?_; apply Exists.intro; apply And.intro; (· (intro W hW; first | (go_simp; done) | (go_simp; with_reducible rfl) | (go_simp; rw [if_neg (by omega)]; done) | (go_simp; rw [if_neg (by omega)]; with_reducible rfl))); simp only [Act.put, List.setIfInBounds_toArray, List.set_cons_zero, List.set_cons_succ]) | (refine sskip rfl rfl ?_; simp only [Act.put, List.setIfInBounds_toArray, List.set_cons_zero, List.set_cons_succ]))
      refine scall rfl rfl (fun K hK => ?_)
      go_simp
      refine (lives_any _).mono ?_; rintro e w7 ⟨rfl, b7⟩
      go_wp2_with fail
      refine hK.out _ _ (by exact b7) ?_
      clear hK K
      try simp only [Act.put, List.setIfInBounds_toArray, List.set_cons_zero, List.set_cons_succ]
      repeat (first | (refine sreadx rfl rfl ?_; apply Exists.intro; apply And.intro; (· (intro W hW; first | (go_simp; done) | (go_simp; with_reducible rfl) | (go_simp; rw [if_neg (by omega)]; done) | (go_simp; rw [if_neg (by omega)]; with_reducible rfl))); simp only [Act.put, List.setIfInBounds_toArray, List.set_cons_zero, List.set_cons_succ]) | (refine sskip rfl rfl ?_; simp only [Act.put, List.setIfInBounds_toArray, List.set_cons_zero, List.set_cons_succ]))
      refine sdone ?_
      go_wp2_with fail
      go_ret
      exact ⟨rfl, bthen B6 b7⟩
    | some q =>
      obtain ⟨u, k⟩ := q
      obtain ⟨g1, g2, g3⟩ := getV_lt hg
      have g4 : decide ((k : Int) > 0) = true := by simp; omega
      have g4' : decide (0 < k) = true := by simp; omega
      have g4'' : 0 < k := g2
      have Hhg := Lib.hid hg; clear hg
      have Hra := Lib.hid ra
      clear ra
      go_enter Try.func9, Try.ntmps9
      go_wp2_with fail
      refine (light_any x _ (by omega)).mono ?_; rintro e w1 ⟨rfl, b1⟩
      have X1 : Bx w x w1 := ⟨box_next (alloc_at rfl) b1, bthen ((Below.refl _ _).alloc (Nat.le_refl _) _) b1⟩
      rw [show decide ((x.s.length : Int) ≤ 100) = true by simp; omega]
      clear b1
      have HX1 := Lib.hid X1; clear X1
      go_wp2_with fail
      refine (get_any A m ca p l _ (Hra.out.next HX1.out.2) (by omega) (by omega) (by omega)).mono ?_; rintro e w2 ⟨rfl, b2⟩
      rw [Hhg.out]
      simp only [resV, vv]
      have HX2 := Lib.hid (HX1.out.next b2)
      clear b2 HX1
      go_wp2_with fail
      refine (rget_any A m ca p l _ (Hra.out.next ((HX2.out.2).alloc (HX2.out.2).size _)) (by omega) (by omega) (by omega)).mono ?_; rintro e w3 ⟨rfl, b3⟩
      rw [Hhg.out]
      simp only [resRV, vv]
      have HX3 := Lib.hid ((HX2.out.next ((Below.refl _ _).alloc (Nat.le_refl _) _)).next b3)
      have HY3 := Lib.hid (box_next (alloc_at rfl) b3)
      have HW3 := Lib.hid (show w2.heap.size < w3.heap.size from Nat.lt_of_lt_of_le (by simp) b3.size)
      clear b3 HX2
      go_wp2_with fail
      refine wp_region_sched [(0, true), (1, true), (4, true), (5, true), (6, true), (2, false), (3, true), (7, false), (8, true), (9, true), (10, true), (11, true), (12, true), (13, true), (14, true), (15, true), (16, true), (17, true), (18, true), (19, true), (20, true), (21, true), (22, true), (23, true), (24, true), (25, true), (26, true), (27, true), (28, true), (29, true), (30, true), (31, true), (32, true), (33, true), (34, true), (35, true), (36, true), (37, true), (38, true), (39, true), (40, true), (41, false), (42, true), (43, true)] (by kernel_rfl) (by kernel_rfl) (fun _ _ d _ _ h => by cases d <;> exact h) ?_
      have B0 : Below w3.heap.size w3 (w3.alloc (.cells #[.int .i64 u.k, .int .i64 u.n, .string ⟨u.s.toArray⟩] 23)).drew := ((Below.refl _ _).alloc (Nat.le_refl _) _).drew
      have X4 := HX3.out.next B0
      have Y4 := box_next HY3.out B0
      have Z4 : (w3.alloc (.cells #[.int .i64 u.k, .int .i64 u.n, .string ⟨u.s.toArray⟩] 23)).drew.heap[w3.heap.size]? = some (.cells #[.int .i64 u.k, .int .i64 u.n, .string ⟨u.s.toArray⟩] 23 (0, 0)) := alloc_at rfl
      refine swith (fun W hW => (cells3 (box_next X4.1 hW.out))) (fun qx => ?_)
      refine swith (fun W hW => (cells3 (box_next Y4 hW.out))) (fun qy => ?_)
      refine swith (fun W hW => (cells3 (box_next Z4 hW.out))) (fun qz => ?_)
      refine swith (fun W hW => (strq (c := ca) ((Hra.out.next X4.2).next hW.out))) (fun qb => ?_)
      have Hz : w3.heap.size = w3.heap.size := rfl
      clear Hz
      repeat (first | (refine sreadx rfl rfl ?_; apply Exists.intro; apply And.intro; (· (intro W hW; first | (go_simp; done) | (go_simp; with_reducible rfl) | (go_simp; rw [if_neg (by omega)]; done) | (go_simp; rw [if_neg (by omega)]; with_reducible rfl))); simp only [Act.put, List.setIfInBounds_toArray, List.set_cons_zero, List.set_cons_succ]) | (refine sskip rfl rfl ?_; simp only [Act.put, List.setIfInBounds_toArray, List.set_cons_zero, List.set_cons_succ]))
      refine scall rfl rfl (fun K hK => ?_)
      go_simp
      refine (put_any A m ca l x _ (Hra.out.next X4.2) (by omega) hnil (by omega) ox.n1 ox.n2).mono ?_; rintro e w5 ⟨A5, n5, c5, rfl, o5, b5⟩
      go_wp2_with fail
      refine hK.out _ _ (by exact b5) ?_
      clear hK K
      try simp only [Act.put, List.setIfInBounds_toArray, List.set_cons_zero, List.set_cons_succ]
      replace qx := fun (W : World) (hW : Grow w5 W) => qx W (Grow.trans (b5) hW)
      replace qy := fun (W : World) (hW : Grow w5 W) => qy W (Grow.trans (b5) hW)
      replace qz := fun (W : World) (hW : Grow w5 W) => qz W (Grow.trans (b5) hW)
      replace qb := fun (W : World) (hW : Grow w5 W) => qb W (Grow.trans (b5) hW)
      have B5 := bthen X4.2 b5
      refine swith (fun W hW => (strq (c := c5) ((Rd.of_own o5).next hW.out))) (fun q5 => ?_)
      repeat (first | (refine sreadx rfl rfl ?_; apply Exists.intro; apply And.intro; (· (intro W hW; first | (go_simp; done) | (go_simp; with_reducible rfl) | (go_simp; rw [if_neg (by omega)]; done) | (go_simp; rw [if_neg (by omega)]; with_reducible rfl))); simp only [Act.put, List.setIfInBounds_toArray, List.set_cons_zero, List.set_cons_succ]) | (refine sskip rfl rfl ?_; simp only [Act.put, List.setIfInBounds_toArray, List.set_cons_zero, List.set_cons_succ]))
      refine scall rfl rfl (fun K hK => ?_)
      go_simp
      refine (rbytes_any x _ (by omega) ox.n1 ox.n2).mono ?_; rintro e w6 ⟨A6, n6, c6, rfl, o6, b6⟩
      go_wp2_with fail
      refine hK.out _ _ (by exact b6) ?_
      clear hK K
      try simp only [Act.put, List.setIfInBounds_toArray, List.set_cons_zero, List.set_cons_succ]
      replace qx := fun (W : World) (hW : Grow w6 W) => qx W (Grow.trans (b6) hW)
      replace qy := fun (W : World) (hW : Grow w6 W) => qy W (Grow.trans (b6) hW)
      replace qz := fun (W : World) (hW : Grow w6 W) => qz W (Grow.trans (b6) hW)
      replace qb := fun (W : World) (hW : Grow w6 W) => qb W (Grow.trans (b6) hW)
      replace q5 := fun (W : World) (hW : Grow w6 W) => q5 W (Grow.trans (b6) hW)
      have B6 := bthen B5 b6
      refine swith (fun W hW => (strq (c := c6) ((Rd.of_own o6).next hW.out))) (fun q6 => ?_)
      have qe := fun (w : World) => eql_yes u w
      have hw : IntKind.i64.wrap (p + (k : Int)) = p + (k : Int) := IntWalk.i64_in _ (by omega)
      have hq : ((ByteArray.mk l.toArray) ++ (ByteArray.mk (putV x).toArray)).toList = l ++ putV x := by rw [ba_append, ByteArray.toList_eq]
      repeat (first | (refine sreadx rfl rfl ?_; apply Exists.intro; apply And.intro; (· (intro W hW; first | (go_simp; done) | (go_simp; with_reducible rfl) | (go_simp; rw [if_neg (by omega)]; done) | (go_simp; rw [if_neg (by omega)]; with_reducible rfl))); simp only [Act.put, List.setIfInBounds_toArray, List.set_cons_zero, List.set_cons_succ]) | (refine sskip rfl rfl ?_; simp only [Act.put, List.setIfInBounds_toArray, List.set_cons_zero, List.set_cons_succ]))
      refine scall rfl rfl (fun K hK => ?_)
      go_simp
      refine (lives_any _).mono ?_; rintro e w7 ⟨rfl, b7⟩
      go_wp2_with fail
      refine hK.out _ _ (by exact b7) ?_
      clear hK K
      try simp only [Act.put, List.setIfInBounds_toArray, List.set_cons_zero, List.set_cons_succ]
      repeat (first | (refine sreadx rfl rfl ?_; apply Exists.intro; apply And.intro; (· (intro W hW; first | (go_simp; done) | (go_simp; with_reducible rfl) | (go_simp; rw [if_neg (by omega)]; done) | (go_simp; rw [if_neg (by omega)]; with_reducible rfl))); simp only [Act.put, List.setIfInBounds_toArray, List.set_cons_zero, List.set_cons_succ]) | (refine sskip rfl rfl ?_; simp only [Act.put, List.setIfInBounds_toArray, List.set_cons_zero, List.set_cons_succ]))
      refine sdone ?_
      go_wp2_with fail
      go_ret
      exact ⟨rfl, bthen B6 b7⟩
  · go_enter Try.func9, Try.ntmps9
    go_wp2_with fail
    refine (light_any x _ (by omega)).mono ?_; rintro e w1 ⟨rfl, b1⟩
    rw [show decide ((x.s.length : Int) ≤ 100) = false by simp; omega]
    have B1 : Below w.heap.size w w1 := bthen (by repeat (first | exact Below.refl _ _ | refine Below.alloc ?_ (by simp <;> omega) _)) b1
    go_wp2_with fail
    refine (lives_any _).mono ?_; rintro e w2 ⟨rfl, b2⟩
    go_wp2_with fail
    go_ret
    exact ⟨rfl, bthen B1 b2⟩
end Go.Proofs.Ytpkoijlbbfffiaa.valueBytes
