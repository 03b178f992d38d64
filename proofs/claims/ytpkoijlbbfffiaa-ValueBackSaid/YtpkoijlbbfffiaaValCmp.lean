/- The contracts of cmp.Compare at int64, cmp.Or, value.Compare and the reference's Compare. -/
import Derived.Test.YtpkoijlbbfffiaaValPrint
namespace Go.Proofs.Ytpkoijlbbfffiaa.V
open Go.RowKit O

theorem cmpBytes : ∀ a b : List UInt8, Lib.compareBytes a b = cmpL a b
  | [], [] => rfl
  | [], _ :: _ => rfl
  | _ :: _, [] => rfl
  | a :: x, b :: y => by
    unfold Lib.compareBytes cmpL
    rw [cmpBytes x y]
    rfl
theorem cmpInt (a b : Int) : Lib.compareInt a b = cmpI a b := rfl
theorem isNaN64 (x : Int) (w : World) : Calls Try.prog 137 #[.int .i64 x] w fun e w' => e = .returned (.bool false) ∧ w = w' := by
  go_enter Try.func137, Try.ntmps137
  go_wp2_with fail
  go_ret
  exact ⟨by simp, rfl⟩
theorem cmp64_any (a b : Int) (w : World) : Calls Try.prog 93 #[.int .i64 a, .int .i64 b] w fun e w' => e = .returned (.int .i64 (cmpI a b)) ∧ w = w' := by
  rcases (show a < b ∨ (b ≤ a ∧ b < a) ∨ (b ≤ a ∧ a ≤ b) by omega) with h | ⟨h1, h⟩ | ⟨h1, h⟩
  · have hc : Hid (cmpI a b = -1) := Lib.hid (by unfold cmpI; rw [if_pos h])
    go_enter Try.func93, Try.ntmps93
    go_wp2_with fail
    refine (isNaN64 a _).mono ?_; rintro e w1 ⟨rfl, rfl⟩
    go_wp2_with fail
    refine (isNaN64 b _).mono ?_; rintro e w1 ⟨rfl, rfl⟩
    go_wp2_with fail
    go_ret
    exact ⟨by rw [hc.out]; rfl, rfl⟩
  · have hc : Hid (cmpI a b = 1) := Lib.hid (by unfold cmpI; rw [if_neg (by omega), if_pos h])
    go_enter Try.func93, Try.ntmps93
    go_wp2_with fail
    refine (isNaN64 a _).mono ?_; rintro e w1 ⟨rfl, rfl⟩
    go_wp2_with fail
    refine (isNaN64 b _).mono ?_; rintro e w1 ⟨rfl, rfl⟩
    go_wp2_with fail
    go_ret
    exact ⟨by rw [hc.out]; rfl, rfl⟩
  · have hc : Hid (cmpI a b = 0) := Lib.hid (by unfold cmpI; rw [if_neg (by omega), if_neg (by omega)])
    go_enter Try.func93, Try.ntmps93
    go_wp2_with fail
    refine (isNaN64 a _).mono ?_; rintro e w1 ⟨rfl, rfl⟩
    go_wp2_with fail
    refine (isNaN64 b _).mono ?_; rintro e w1 ⟨rfl, rfl⟩
    go_wp2_with fail
    go_ret
    exact ⟨by rw [hc.out]; rfl, rfl⟩
set_option maxHeartbeats 1000000 in
theorem or_any (x y z : Int) (b : Nat) (w : World) (c0 : w.cell? ⟨b, 0, none⟩ = some (.int .i64 x)) (c1 : w.cell? ⟨b, 1, none⟩ = some (.int .i64 y)) (c2 : w.cell? ⟨b, 2, none⟩ = some (.int .i64 z)) :
    Calls Try.prog 91 #[.slice (some ⟨b, 0, none⟩) 3 3] w fun e w' => e = .returned (.int .i64 (or3 x y z)) ∧ w = w' := by
  go_enter Try.func91, Try.ntmps91
  go_wp2_with fail
  go_loop [2, 5, 8] (fun _ _ i => (i = .int .i64 0) ∨ (i = .int .i64 1 ∧ x = 0) ∨ (i = .int .i64 2 ∧ x = 0 ∧ y = 0) ∨ (i = .int .i64 3 ∧ x = 0 ∧ y = 0 ∧ z = 0)) (fun _ _ i => 4 - (intOf i).toNat)
  case atStart => exact .inl rfl
  case round =>
    rcases hrel with rfl | ⟨rfl, h1⟩ | ⟨rfl, h1, h2⟩ | ⟨rfl, h1, h2, h3⟩
    · by_cases hx : x = 0
      · subst hx
        go_wp2_with fail
        go_round
        case rel => exact .inr (.inl (by simp))
        case measure => simp [intOf]
      · have ho : Hid (or3 x y z = x) := Lib.hid (by unfold or3; rw [if_pos hx])
        have hb : (x != 0) = true := by simpa using hx
        go_wp2_with fail
        go_ret
        exact ⟨by rw [ho.out]; rfl, rfl⟩
    · by_cases hx : y = 0
      · subst hx h1
        go_wp2_with fail
        go_round
        case rel => exact .inr (.inr (.inl (by simp)))
        case measure => simp [intOf]
      · have ho : Hid (or3 x y z = y) := Lib.hid (by unfold or3; rw [if_neg (by simp [h1]), if_pos hx])
        have hb : (y != 0) = true := by simpa using hx
        subst h1
        go_wp2_with fail
        go_ret
        exact ⟨by rw [ho.out]; rfl, rfl⟩
    · by_cases hx : z = 0
      · subst hx h1 h2
        go_wp2_with fail
        go_round
        case rel => exact .inr (.inr (.inr (by simp)))
        case measure => simp [intOf]
      · have ho : Hid (or3 x y z = z) := Lib.hid (by unfold or3; rw [if_neg (by simp [h1]), if_neg (by simp [h2])])
        have hb : (z != 0) = true := by simpa using hx
        subst h1 h2
        go_wp2_with fail
        go_ret
        exact ⟨by rw [ho.out]; rfl, rfl⟩
    · subst h1 h2 h3
      have ho : Hid (or3 0 0 0 = 0) := Lib.hid (by simp [or3])
      go_wp2_with fail
      go_ret
      exact ⟨by rw [ho.out]; rfl, rfl⟩
theorem newc {w : World} {x y z : Value} {T : TypeId} {g : Nat} (hg : g = w.heap.size) : (w.alloc (.cells #[x, y, z] T)).drew.cell? ⟨g, 0, none⟩ = some x ∧ (w.alloc (.cells #[x, y, z] T)).drew.cell? ⟨g, 1, none⟩ = some y ∧ (w.alloc (.cells #[x, y, z] T)).drew.cell? ⟨g, 2, none⟩ = some z :=
  cells3 (W := (w.alloc (.cells #[x, y, z] T)).drew) (T := T) (show (w.alloc (.cells #[x, y, z] T)).heap[g]? = _ from alloc_at hg)
/-- Two boxes of a function's own. -/
def B2 (w : World) (x y : Val) (W : World) : Prop :=
  W.heap[w.heap.size]? = some (.cells #[.int .i64 x.k, .int .i64 x.n, .string ⟨x.s.toArray⟩] 23 (0, 0)) ∧
  W.heap[w.heap.size + 1]? = some (.cells #[.int .i64 y.k, .int .i64 y.n, .string ⟨y.s.toArray⟩] 23 (0, 0)) ∧ Below w.heap.size w W
theorem B2.next {w W W' : World} {x y : Val} (h : B2 w x y W) (b : Below W.heap.size W W') : B2 w x y W' := ⟨box_next h.1 b, box_next h.2.1 b, bthen h.2.2 b⟩
theorem B2.cells {w W : World} {x y : Val} (h : B2 w x y W) :
    (W.cell? ⟨w.heap.size, 0, none⟩ = some (.int .i64 x.k) ∧ W.cell? ⟨w.heap.size, 1, none⟩ = some (.int .i64 x.n) ∧ W.cell? ⟨w.heap.size, 2, none⟩ = some (.string ⟨x.s.toArray⟩)) ∧
    (W.cell? ⟨w.heap.size + 1, 0, none⟩ = some (.int .i64 y.k) ∧ W.cell? ⟨w.heap.size + 1, 1, none⟩ = some (.int .i64 y.n) ∧ W.cell? ⟨w.heap.size + 1, 2, none⟩ = some (.string ⟨y.s.toArray⟩)) := ⟨cells3 h.1, cells3 h.2.1⟩
theorem B2.start (w : World) (x y : Val) : B2 w x y ((w.alloc (.cells #[.int .i64 x.k, .int .i64 x.n, .string ⟨x.s.toArray⟩] 23)).alloc (.cells #[.int .i64 y.k, .int .i64 y.n, .string ⟨y.s.toArray⟩] 23)) :=
  ⟨alloc_old' (alloc_at rfl), alloc_at (by simp), by repeat (first | exact Below.refl _ _ | refine Below.alloc ?_ (by simp <;> omega) _)⟩
set_option maxRecDepth 100000 in
set_option maxHeartbeats 1000000 in
theorem compare_any (x y : Val) (w : World) : Calls Try.prog 33 #[vv x, vv y] w fun e w' => e = .returned (.int .i64 (cmpV x y)) ∧ Below w.heap.size w w' := by
  have hB := Lib.hid (B2.start w x y)
  have hC : Hid (cmpV x y = or3 (cmpI x.k y.k) (cmpI x.n y.n) (cmpL x.s y.s)) := Lib.hid rfl
  simp only [vv]
  go_enter Try.func33, Try.ntmps33
  go_wp2_with fail
  refine wp_region_sched [(0, true), (1, true), (2, true), (3, true), (5, true), (6, true), (7, true), (8, true), (10, true), (11, true), (12, true), (13, true), (4, false), (9, false), (14, false), (15, false), (16, false), (17, true)] (by kernel_rfl) (by kernel_rfl) (fun _ _ d _ _ h => by cases d <;> exact h) ?_
  refine sbelow (w0 := (w.alloc (.cells #[.int .i64 x.k, .int .i64 x.n, .string ⟨x.s.toArray⟩] 23)).alloc (.cells #[.int .i64 y.k, .int .i64 y.n, .string ⟨y.s.toArray⟩] 23)) ((Below.refl _ _).drew) (fun B0 => ?_)
  refine swith (fun W hW => ((hB.out.next (bthen B0 hW.out)).cells)) (fun q => ?_)
  repeat (first | (refine sreadx rfl rfl ?_; apply Exists.intro; apply And.intro; (· (intro W hW; first | (go_simp; done) | (go_simp; with_reducible rfl) | (go_simp; rw [if_neg (by omega)]; done) | (go_simp; rw [if_neg (by omega)]; with_reducible rfl))); simp only [Act.put, List.setIfInBounds_toArray, List.set_cons_zero, List.set_cons_succ]) | (refine sskip rfl rfl ?_; simp only [Act.put, List.setIfInBounds_toArray, List.set_cons_zero, List.set_cons_succ]))
  refine scall rfl rfl (fun K hK => ?_)
  go_simp
  refine (Try.cmp_Compare_int x.k y.k _).mono ?_; rintro e w1 ⟨rfl, rfl⟩
  go_wp2_with fail
  refine hK.out _ _ (by exact Below.refl _ _) ?_
  clear hK K
  try simp only [Act.put, List.setIfInBounds_toArray, List.set_cons_zero, List.set_cons_succ]
  refine scall rfl rfl (fun K hK => ?_)
  go_simp
  refine (cmp64_any x.n y.n _).mono ?_; rintro e w1 ⟨rfl, rfl⟩
  go_wp2_with fail
  refine hK.out _ _ (by exact Below.refl _ _) ?_
  clear hK K
  try simp only [Act.put, List.setIfInBounds_toArray, List.set_cons_zero, List.set_cons_succ]
  refine scall rfl rfl (fun K hK => ?_)
  go_simp
  refine (Try.strings_Compare ⟨x.s.toArray⟩ ⟨y.s.toArray⟩ _).mono ?_; rintro e w1 ⟨rfl, rfl⟩
  go_wp2_with fail
  refine hK.out _ _ (by exact Below.refl _ _) ?_
  clear hK K
  try simp only [Act.put, List.setIfInBounds_toArray, List.set_cons_zero, List.set_cons_succ]
  refine scall rfl rfl (fun K hK => ?_)
  go_simp
  refine hK.out _ _ ((Below.refl _ _).alloc (Nat.le_refl _) _) ?_
  clear hK K
  try simp only [Act.put, List.setIfInBounds_toArray, List.set_cons_zero, List.set_cons_succ]
  refine scall rfl rfl (fun K hK => ?_)
  go_simp
  refine (or_any (Lib.compareInt x.k y.k) (cmpI x.n y.n) (Lib.compareBytes x.s y.s) _ _ (newc (by simp)).1 (newc (by simp)).2.1 (newc (by simp)).2.2).mono ?_; rintro e w1 ⟨rfl, rfl⟩
  go_wp2_with fail
  refine hK.out _ _ (by exact Below.refl _ _) ?_
  clear hK K
  try simp only [Act.put, List.setIfInBounds_toArray, List.set_cons_zero, List.set_cons_succ]
  repeat (first | (refine sreadx rfl rfl ?_; apply Exists.intro; apply And.intro; (· (intro W hW; first | (go_simp; done) | (go_simp; with_reducible rfl) | (go_simp; rw [if_neg (by omega)]; done) | (go_simp; rw [if_neg (by omega)]; with_reducible rfl))); simp only [Act.put, List.setIfInBounds_toArray, List.set_cons_zero, List.set_cons_succ]) | (refine sskip rfl rfl ?_; simp only [Act.put, List.setIfInBounds_toArray, List.set_cons_zero, List.set_cons_succ]))
  refine sdone ?_
  go_wp2_with fail
  go_ret
  refine ⟨by rw [hC.out, ← cmpInt, ← cmpBytes]; rfl, ?_⟩
  exact Below.alloc (bthen hB.out.2.2 B0) (bthen hB.out.2.2 B0).size _
/-- The first place where they part, or the end of one. -/
theorem cmpL_drop {a b : List UInt8} {j : Nat} (h1 : j < a.length) (h2 : j < b.length) : cmpL (a.drop j) (b.drop j) = if a[j].toNat < b[j].toNat then -1 else if b[j].toNat < a[j].toNat then 1 else cmpL (a.drop (j + 1)) (b.drop (j + 1)) := by
  rw [List.drop_eq_getElem_cons h1, List.drop_eq_getElem_cons h2]
  rfl
theorem cmpL_end {a b : List UInt8} {j : Nat} (h : a.length ≤ j ∨ b.length ≤ j) (hj : j ≤ a.length ∧ j ≤ b.length) : cmpL (a.drop j) (b.drop j) = cmpI a.length b.length := by
  unfold cmpI
  rcases (show a.length < b.length ∨ a.length = b.length ∨ b.length < a.length by omega) with g | g | g
  · rw [List.drop_of_length_le (by omega), if_pos (by omega), List.drop_eq_getElem_cons (show j < b.length by omega)]
    rfl
  · rw [List.drop_of_length_le (by omega), List.drop_of_length_le (by omega), if_neg (by omega), if_neg (by omega)]
    rfl
  · rw [List.drop_of_length_le (i := j) (l := b) (by omega), if_neg (by omega), if_pos (by omega), List.drop_eq_getElem_cons (show j < a.length by omega)]
    rfl
theorem cmpV_k {x y : Val} (h : ¬ x.k = y.k) : cmpV x y = if x.k < y.k then -1 else 1 := by
  unfold cmpV or3 cmpI
  repeat' split
  all_goals first | rfl | omega
theorem cmpV_n {x y : Val} (hk : x.k = y.k) (h : ¬ x.n = y.n) : cmpV x y = if x.n < y.n then -1 else 1 := by
  unfold cmpV or3 cmpI
  repeat' split
  all_goals first | rfl | omega
theorem cmpV_s {x y : Val} (hk : x.k = y.k) (h : x.n = y.n) : cmpV x y = cmpL x.s y.s := by
  unfold cmpV or3 cmpI
  repeat' split
  all_goals first | rfl | omega
set_option maxRecDepth 100000 in
set_option maxHeartbeats 2000000 in
theorem rcompare_any (x y : Val) (w : World) (hx : x.s.length ≤ 1000000000000) (hy : y.s.length ≤ 1000000000000) : Calls Try.prog 34 #[vv x, vv y] w fun e w' => e = .returned (.int .i64 (cmpV x y)) ∧ Below w.heap.size w w' := by
  have hB := Lib.hid (B2.start w x y)
  have K1 := Lib.hid (cmpV_k (x := x) (y := y))
  have K2 := Lib.hid (cmpV_n (x := x) (y := y))
  have K3 := Lib.hid (cmpV_s (x := x) (y := y))
  obtain ⟨k, n, s⟩ := x
  obtain ⟨k', n', s'⟩ := y
  simp only [vv]
  by_cases hk : k = k'
  · subst hk
    by_cases hn : n = n'
    · subst hn
      have K4 := Lib.hid (K3.out rfl rfl)
      have hsz : (ByteArray.mk s.toArray).size = s.length := by simp [ByteArray.size]
      have hsz' : (ByteArray.mk s'.toArray).size = s'.length := by simp [ByteArray.size]
      clear K1 K2 K3
      simp only at hx hy
      go_enter Try.func34, Try.ntmps34
      go_wp2_with fail
      go_loopw [4, 5] (fun _ i wr => ∃ j : Nat, j ≤ s.length ∧ j ≤ s'.length ∧ i = .int .i64 j ∧ Hid (cmpL s s' = cmpL (s.drop j) (s'.drop j)) ∧ B2 w ⟨k, n, s⟩ ⟨k, n, s'⟩ wr) (fun _ i _ => s.length - (intOf i).toNat)
      case atStart => exact ⟨0, by omega, by omega, rfl, Lib.hid rfl, hB.out⟩
      case round =>
        obtain ⟨j, hj, hj', rfl, H, hb⟩ := hrel
        have HB := Lib.hid hb
        obtain ⟨⟨c0, c1, c2⟩, ⟨c3, c4, c5⟩⟩ := hb.cells
        clear hB hb
        simp only at c0 c1 c2 c3 c4 c5
        by_cases h1 : j < s.length
        · by_cases h2 : j < s'.length
          · have hd := Lib.hid (cmpL_drop h1 h2)
            generalize ha : s[j] = a at hd
            generalize hb : s'[j] = b at hd
            have xa := ba_at s j h1 ha
            have xb := ba_at s' j h2 hb
            clear ha hb
            rcases (show (a.toNat : Int) < b.toNat ∨ ((b.toNat : Int) ≤ a.toNat ∧ (b.toNat : Int) < a.toNat) ∨ ((b.toNat : Int) ≤ a.toNat ∧ (a.toNat : Int) ≤ b.toNat) by omega) with g | ⟨g1, g⟩ | ⟨g1, g⟩
            · have hr : Hid (cmpL s s' = -1) := Lib.hid (by rw [H.out, hd.out, if_pos (by omega)])
              go_wp2_with fail
              refine wp_region_sched [(0, true), (1, true), (2, true), (3, true), (4, true), (5, true), (6, true), (7, true), (8, true)] (by kernel_rfl) (by kernel_rfl) (fun _ _ d _ _ h => by cases d <;> exact h) ?_
              refine sbelow (w0 := wr) ((Below.refl _ _).drew) (fun B12 => ?_)
              refine swith (fun W hW => ((HB.out.next (bthen B12 hW.out)).cells)) (fun q => ?_)
              repeat (first | (refine sreadx rfl rfl ?_; apply Exists.intro; apply And.intro; (· (intro W hW; first | (go_simp; done) | (go_simp; with_reducible rfl) | (go_simp; rw [if_neg (by omega)]; done) | (go_simp; rw [if_neg (by omega)]; with_reducible rfl))); simp only [Act.put, List.setIfInBounds_toArray, List.set_cons_zero, List.set_cons_succ]) | (refine sskip rfl rfl ?_; simp only [Act.put, List.setIfInBounds_toArray, List.set_cons_zero, List.set_cons_succ]))
              refine sdone ?_
              clear q
              have HB12 := Lib.hid (HB.out.next B12)
              clear c0 c1 c2 c3 c4 c5
              obtain ⟨⟨c0, c1, c2⟩, ⟨c3, c4, c5⟩⟩ := HB12.out.cells
              simp only at c0 c1 c2 c3 c4 c5
              go_wp2_with fail
              go_ret
              exact ⟨by rw [K4.out, hr.out]; rfl, HB12.out.2.2⟩
            · have hr : Hid (cmpL s s' = 1) := Lib.hid (by rw [H.out, hd.out, if_neg (by omega), if_pos (by omega)])
              go_wp2_with fail
              refine wp_region_sched [(0, true), (1, true), (2, true), (3, true), (4, true), (5, true), (6, true), (7, true), (8, true)] (by kernel_rfl) (by kernel_rfl) (fun _ _ d _ _ h => by cases d <;> exact h) ?_
              refine sbelow (w0 := wr) ((Below.refl _ _).drew) (fun B12 => ?_)
              refine swith (fun W hW => ((HB.out.next (bthen B12 hW.out)).cells)) (fun q => ?_)
              repeat (first | (refine sreadx rfl rfl ?_; apply Exists.intro; apply And.intro; (· (intro W hW; first | (go_simp; done) | (go_simp; with_reducible rfl) | (go_simp; rw [if_neg (by omega)]; done) | (go_simp; rw [if_neg (by omega)]; with_reducible rfl))); simp only [Act.put, List.setIfInBounds_toArray, List.set_cons_zero, List.set_cons_succ]) | (refine sskip rfl rfl ?_; simp only [Act.put, List.setIfInBounds_toArray, List.set_cons_zero, List.set_cons_succ]))
              refine sdone ?_
              clear q
              have HB12 := Lib.hid (HB.out.next B12)
              clear c0 c1 c2 c3 c4 c5
              obtain ⟨⟨c0, c1, c2⟩, ⟨c3, c4, c5⟩⟩ := HB12.out.cells
              simp only at c0 c1 c2 c3 c4 c5
              go_wp2_with fail
              refine wp_region_sched [(0, true), (1, true), (2, true), (3, true), (4, true), (5, true), (6, true), (7, true), (8, true)] (by kernel_rfl) (by kernel_rfl) (fun _ _ d _ _ h => by cases d <;> exact h) ?_
              refine sbelow (w0 := wr.drew) ((Below.refl _ _).drew) (fun B14 => ?_)
              refine swith (fun W hW => ((HB12.out.next (bthen B14 hW.out)).cells)) (fun q => ?_)
              repeat (first | (refine sreadx rfl rfl ?_; apply Exists.intro; apply And.intro; (· (intro W hW; first | (go_simp; done) | (go_simp; with_reducible rfl) | (go_simp; rw [if_neg (by omega)]; done) | (go_simp; rw [if_neg (by omega)]; with_reducible rfl))); simp only [Act.put, List.setIfInBounds_toArray, List.set_cons_zero, List.set_cons_succ]) | (refine sskip rfl rfl ?_; simp only [Act.put, List.setIfInBounds_toArray, List.set_cons_zero, List.set_cons_succ]))
              refine sdone ?_
              clear q
              have HB14 := Lib.hid (HB12.out.next B14)
              clear c0 c1 c2 c3 c4 c5
              obtain ⟨⟨c0, c1, c2⟩, ⟨c3, c4, c5⟩⟩ := HB14.out.cells
              simp only at c0 c1 c2 c3 c4 c5
              go_wp2_with fail
              go_ret
              exact ⟨by rw [K4.out, hr.out]; rfl, HB14.out.2.2⟩
            · have hr : Hid (cmpL s s' = cmpL (s.drop (j + 1)) (s'.drop (j + 1))) := Lib.hid (by rw [H.out, hd.out, if_neg (by omega), if_neg (by omega)])
              go_wp2_with fail
              refine wp_region_sched [(0, true), (1, true), (2, true), (3, true), (4, true), (5, true), (6, true), (7, true), (8, true)] (by kernel_rfl) (by kernel_rfl) (fun _ _ d _ _ h => by cases d <;> exact h) ?_
              refine sbelow (w0 := wr) ((Below.refl _ _).drew) (fun B12 => ?_)
              refine swith (fun W hW => ((HB.out.next (bthen B12 hW.out)).cells)) (fun q => ?_)
              repeat (first | (refine sreadx rfl rfl ?_; apply Exists.intro; apply And.intro; (· (intro W hW; first | (go_simp; done) | (go_simp; with_reducible rfl) | (go_simp; rw [if_neg (by omega)]; done) | (go_simp; rw [if_neg (by omega)]; with_reducible rfl))); simp only [Act.put, List.setIfInBounds_toArray, List.set_cons_zero, List.set_cons_succ]) | (refine sskip rfl rfl ?_; simp only [Act.put, List.setIfInBounds_toArray, List.set_cons_zero, List.set_cons_succ]))
              refine sdone ?_
              clear q
              have HB12 := Lib.hid (HB.out.next B12)
              clear c0 c1 c2 c3 c4 c5
              obtain ⟨⟨c0, c1, c2⟩, ⟨c3, c4, c5⟩⟩ := HB12.out.cells
              simp only at c0 c1 c2 c3 c4 c5
              go_wp2_with fail
              refine wp_region_sched [(0, true), (1, true), (2, true), (3, true), (4, true), (5, true), (6, true), (7, true), (8, true)] (by kernel_rfl) (by kernel_rfl) (fun _ _ d _ _ h => by cases d <;> exact h) ?_
              refine sbelow (w0 := wr.drew) ((Below.refl _ _).drew) (fun B14 => ?_)
              refine swith (fun W hW => ((HB12.out.next (bthen B14 hW.out)).cells)) (fun q => ?_)
              repeat (first | (refine sreadx rfl rfl ?_; apply Exists.intro; apply And.intro; (· (intro W hW; first | (go_simp; done) | (go_simp; with_reducible rfl) | (go_simp; rw [if_neg (by omega)]; done) | (go_simp; rw [if_neg (by omega)]; with_reducible rfl))); simp only [Act.put, List.setIfInBounds_toArray, List.set_cons_zero, List.set_cons_succ]) | (refine sskip rfl rfl ?_; simp only [Act.put, List.setIfInBounds_toArray, List.set_cons_zero, List.set_cons_succ]))
              refine sdone ?_
              clear q
              have HB14 := Lib.hid (HB12.out.next B14)
              clear c0 c1 c2 c3 c4 c5
              obtain ⟨⟨c0, c1, c2⟩, ⟨c3, c4, c5⟩⟩ := HB14.out.cells
              simp only at c0 c1 c2 c3 c4 c5
              go_wp2_with fail
              go_roundw
              case rel => exact ⟨j + 1, by omega, by omega, by go_num, hr, HB14.out⟩
              case measure => simp [intOf]; omega
          · have he := Lib.hid (H.out.trans (cmpL_end (.inr (by omega)) ⟨hj, hj'⟩))
            have hl : ¬ s.length < s'.length := by omega
            have hc : Hid (cmpI s.length s'.length = 1) := Lib.hid (by unfold cmpI; rw [if_neg (by omega), if_pos (by omega)])
            go_wp2_with fail
            go_ret
            exact ⟨by rw [K4.out, he.out, hc.out]; rfl, HB.out.2.2⟩
        · have he := Lib.hid (H.out.trans (cmpL_end (.inl (by omega)) ⟨hj, hj'⟩))
          by_cases hl : s.length < s'.length
          · have hc : Hid (cmpI s.length s'.length = -1) := Lib.hid (by unfold cmpI; rw [if_pos (by omega)])
            go_wp2_with fail
            go_ret
            exact ⟨by rw [K4.out, he.out, hc.out]; rfl, HB.out.2.2⟩
          · have hc : Hid (cmpI s.length s'.length = 0) := Lib.hid (by unfold cmpI; rw [if_neg (by omega), if_neg (by omega)])
            have hll : s'.length = s.length := by omega
            go_wp2_with fail
            go_ret
            exact ⟨by rw [K4.out, he.out, hc.out]; rfl, HB.out.2.2⟩
    · have hlt := Lib.hid (K2.out rfl hn)
      by_cases h : n < n'
      · go_enter Try.func34, Try.ntmps34
        go_wp2_with fail
        go_ret
        exact ⟨by rw [hlt.out, if_pos h]; rfl, hB.out.2.2⟩
      · go_enter Try.func34, Try.ntmps34
        go_wp2_with fail
        go_ret
        exact ⟨by rw [hlt.out, if_neg (by simp; omega)]; rfl, hB.out.2.2⟩
  · have hlt := Lib.hid (K1.out hk)
    by_cases h : k < k'
    · go_enter Try.func34, Try.ntmps34
      go_wp2_with fail
      go_ret
      exact ⟨by rw [hlt.out, if_pos h]; rfl, hB.out.2.2⟩
    · go_enter Try.func34, Try.ntmps34
      go_wp2_with fail
      go_ret
      exact ⟨by rw [hlt.out, if_neg (by simp; omega)]; rfl, hB.out.2.2⟩
end Go.Proofs.Ytpkoijlbbfffiaa.V
