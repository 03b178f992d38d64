/- ValueTexts' walk: for every value and every text it returns true. -/
import Derived.Test.YtpkoijlbbfffiaaValRParse2
import Derived.Test.YtpkoijlbbfffiaaValOpen
import Derived.Deep.DeepCutAuto
namespace Go.Proofs.Ytpkoijlbbfffiaa.valueTexts
open Go.RowKit O V

theorem eql_yes (x : Val) (w : World) : (binOp .eql 23 (.agg #[.int .i64 x.k, .int .i64 x.n, .string ⟨x.s.toArray⟩]) (.agg #[.int .i64 x.k, .int .i64 x.n, .string ⟨x.s.toArray⟩])).run Try.prog w = .ok (.bool true) w := by
  go_simp
theorem cut_ba (l : List UInt8) (k m : Nat) (h : min l.length k = m) : (ByteArray.mk l.toArray).extract 0 m = ⟨(l.take k).toArray⟩ := by
  apply ByteArray.ext
  simp [List.extract_eq_take_drop]
  omega
def Bx (w : World) (x : Val) (W : World) : Prop := W.heap[w.heap.size]? = some (.cells #[.int .i64 x.k, .int .i64 x.n, .string ⟨x.s.toArray⟩] 23 (0, 0)) ∧ Below w.heap.size w W
theorem Bx.next {w W W' : World} {x : Val} (h : Bx w x W) (b : Below W.heap.size W W') : Bx w x W' := ⟨box_next h.1 b, bthen h.2 b⟩
set_option maxRecDepth 100000 in
set_option maxHeartbeats 4000000 in
theorem walk (v0 : Value) (x : Val) (s : ByteArray) (w : World) (h0 : IsVal v0 x) (hs : s.size ≤ maxLen) :
    Calls Try.prog 8 #[v0, .string s] w fun e w' => e = .returned (.bool true) ∧ Below w.heap.size w w' := by
  obtain ⟨rfl, ox⟩ := h0
  have lx := ox.s
  obtain ⟨l0, rfl⟩ : ∃ l0 : List UInt8, s = ⟨l0.toArray⟩ := ⟨s.data.toList, by cases s; simp⟩
  have hsz : (ByteArray.mk l0.toArray).size = l0.length := by simp [ByteArray.size]
  rw [hsz] at hs
  unfold maxLen at hs lx
  obtain ⟨m, hm⟩ : ∃ m : Nat, min l0.length 100 = m := ⟨_, rfl⟩
  have ex : min (l0.length : Int) 100 = (m : Int) := by omega
  have hm2 : (m : Int) ≤ (l0.length : Int) := by omega
  have hcut := cut_ba l0 100 m hm
  have hll : (l0.take 100).length ≤ 100 := by simp; omega
  generalize l0.take 100 = l at hcut hll
  clear hm
  simp only [vv]
  by_cases hx : (x.s.length : Int) ≤ 100
  · have lx' : x.s.length ≤ 100 := by omega
    have hsame := parse_same l
    cases hp : parseR l with
    | none =>
      have hpv := Lib.hid (hsame.trans hp)
      have Hhp := Lib.hid hp; clear hp
      clear hsame
      go_enter Try.func8, Try.ntmps8
      go_wp2_with fail
      refine (light_any x _ (by omega)).mono ?_; rintro e w1 ⟨rfl, b1⟩
      have HX1 : Hid (Bx w x w1) := Lib.hid ⟨box_next (alloc_at rfl) b1, bthen ((Below.refl _ _).alloc (Nat.le_refl _) _) b1⟩
      rw [show decide ((x.s.length : Int) ≤ 100) = true by simp; omega]
      clear b1
      go_wp2_with fail
      refine (parse_any l _ (by omega)).mono ?_; rintro e w2 ⟨rfl, b2⟩
      rw [hpv.out]
      simp only [resP, vv]
      have HX2 := Lib.hid (HX1.out.next b2)
      clear b2 HX1
      have HX2' := Lib.hid (HX2.out.next ((Below.refl _ _).alloc (Nat.le_refl _) (.cells #[.int .i64 0, .int .i64 0, .string ⟨#[]⟩] 23)))
      have HY2 : Hid ((w2.alloc (.cells #[.int .i64 0, .int .i64 0, .string ⟨#[]⟩] 23)).heap[w2.heap.size]? = some (.cells #[.int .i64 0, .int .i64 0, .string ⟨#[]⟩] 23 (0, 0))) := Lib.hid (alloc_at rfl)
      go_wp2_with fail
      refine (rparse_any l _ (by omega)).mono ?_; rintro e w3 ⟨u, rfl, hu, b3⟩
      rw [Hhp.out]
      simp only [Option.isSome_none, vv]
      clear hu
      have BA : Below w3.heap.size w3 (w3.alloc (.cells #[.int .i64 0, .int .i64 0, .string ⟨#[]⟩] 23)) := (Below.refl _ _).alloc (Nat.le_refl _) _
      have X3 := Lib.hid ((HX2'.out.next b3).next BA)
      have Y3 := Lib.hid (box_next (box_next HY2.out b3) BA)
      have Z3 : Hid ((w3.alloc (.cells #[.int .i64 0, .int .i64 0, .string ⟨#[]⟩] 23)).heap[w3.heap.size]? = some (.cells #[.int .i64 0, .int .i64 0, .string ⟨#[]⟩] 23 (0, 0))) := Lib.hid (alloc_at rfl)
      clear b3 BA HX2 HX2' HY2
      have qe := fun w => eql_yes ⟨0, 0, []⟩ w
      go_wp2_with fail
      refine wp_region_sched [(0, true), (2, true), (1, false), (3, false), (4, true), (5, true), (6, true), (7, true), (8, true), (9, true), (10, true), (11, true), (12, true), (13, true), (14, true), (15, true), (16, false), (17, true), (18, true)] (by kernel_rfl) (by kernel_rfl) (fun _ _ d _ _ h => by cases d <;> exact h) ?_
      refine sbelow (w0 := w3.alloc (.cells #[.int .i64 0, .int .i64 0, .string ⟨#[]⟩] 23)) ((Below.refl _ _).drew) (fun B0 => ?_)
      refine swith (fun W hW => (cells3 (X3.out.next (bthen B0 hW.out)).1)) (fun qx => ?_)
      refine swith (fun W hW => (cells3 (box_next Y3.out (bthen B0 hW.out)))) (fun qy => ?_)
      refine swith (fun W hW => (cells3 (box_next Z3.out (bthen B0 hW.out)))) (fun qz => ?_)
      repeat (first | (refine sreadx rfl rfl ?_; apply Exists.intro; apply And.intro; (· (intro W hW; first | (go_simp; done) | (go_simp; with_reducible rfl) | (go_simp; rw [if_neg (by omega)]; done) | (go_simp; rw [if_neg (by omega)]; with_reducible rfl))); simp only [Act.put, List.setIfInBounds_toArray, List.set_cons_zero, List.set_cons_succ]) | (refine sskip rfl rfl ?_; simp only [Act.put, List.setIfInBounds_toArray, List.set_cons_zero, List.set_cons_succ]))
      refine scall rfl rfl (fun K hK => ?_)
      go_simp
      refine (print_any x _ (by omega) ox.n1 ox.n2).mono ?_; rintro e w5 ⟨rfl, b5⟩
      go_wp2_with fail
      refine hK.out _ _ (by exact b5) ?_
      clear hK K
      try simp only [Act.put, List.setIfInBounds_toArray, List.set_cons_zero, List.set_cons_succ]
      replace qx := fun (W : World) (hW : Grow w5 W) => qx W (Grow.trans (b5) hW)
      replace qy := fun (W : World) (hW : Grow w5 W) => qy W (Grow.trans (b5) hW)
      replace qz := fun (W : World) (hW : Grow w5 W) => qz W (Grow.trans (b5) hW)
      have B5 := bthen B0 b5
      repeat (first | (refine sreadx rfl rfl ?_; apply Exists.intro; apply And.intro; (· (intro W hW; first | (go_simp; done) | (go_simp; with_reducible rfl) | (go_simp; rw [if_neg (by omega)]; done) | (go_simp; rw [if_neg (by omega)]; with_reducible rfl))); simp only [Act.put, List.setIfInBounds_toArray, List.set_cons_zero, List.set_cons_succ]) | (refine sskip rfl rfl ?_; simp only [Act.put, List.setIfInBounds_toArray, List.set_cons_zero, List.set_cons_succ]))
      refine scall rfl rfl (fun K hK => ?_)
      go_simp
      refine (rprint_any x _ (by omega) ox.n1 ox.n2).mono ?_; rintro e w6 ⟨rfl, b6⟩
      go_wp2_with fail
      refine hK.out _ _ (by exact b6) ?_
      clear hK K
      try simp only [Act.put, List.setIfInBounds_toArray, List.set_cons_zero, List.set_cons_succ]
      replace qx := fun (W : World) (hW : Grow w6 W) => qx W (Grow.trans (b6) hW)
      replace qy := fun (W : World) (hW : Grow w6 W) => qy W (Grow.trans (b6) hW)
      replace qz := fun (W : World) (hW : Grow w6 W) => qz W (Grow.trans (b6) hW)
      have B6 := bthen B5 b6
      repeat (first | (refine sreadx rfl rfl ?_; apply Exists.intro; apply And.intro; (· (intro W hW; first | (go_simp; done) | (go_simp; with_reducible rfl) | (go_simp; rw [if_neg (by omega)]; done) | (go_simp; rw [if_neg (by omega)]; with_reducible rfl))); simp only [Act.put, List.setIfInBounds_toArray, List.set_cons_zero, List.set_cons_succ]) | (refine sskip rfl rfl ?_; simp only [Act.put, List.setIfInBounds_toArray, List.set_cons_zero, List.set_cons_succ]))
      refine scall rfl rfl (fun K hK => ?_)
      go_simp
      refine (lives_any _).mono ?_; rintro e w7 ⟨rfl, b7⟩
      go_wp2_with fail
      refine hK.out _ _ (by exact b7) ?_
      clear hK K
      try simp only [Act.put, List.setIfInBounds_toArray, List.set_cons_zero, List.set_cons_succ]
      repeat (first | (refine sreadx rfl rfl ?_; apply Exists.intro; apply And.intro; (· (intro W hW; first | (go_simp; done) | (go_simp; with_reducible rfl) | (go_simp; rw [if_neg (by omega)]; done) | (go_simp; rw [if_neg (by omega)]; with_reducible rfl))); simp only [Act.put, List.setIfInBounds_toArray, List.set_cons_zero, List.set_cons_succ]) | (refine sskip rfl rfl ?_; simp only [Act.put, List.setIfInBounds_toArray, List.set_cons_zero, List.set_cons_succ]))
      refine sdone ?_
      go_wp2_with fail
      go_ret
      exact ⟨rfl, (X3.out.next (bthen B6 b7)).2⟩
    | some v =>
      have hpv := Lib.hid (hsame.trans hp)
      have Hhp := Lib.hid hp; clear hp
      clear hsame
      go_enter Try.func8, Try.ntmps8
      go_wp2_with fail
      refine (light_any x _ (by omega)).mono ?_; rintro e w1 ⟨rfl, b1⟩
      have HX1 : Hid (Bx w x w1) := Lib.hid ⟨box_next (alloc_at rfl) b1, bthen ((Below.refl _ _).alloc (Nat.le_refl _) _) b1⟩
      rw [show decide ((x.s.length : Int) ≤ 100) = true by simp; omega]
      clear b1
      go_wp2_with fail
      refine (parse_any l _ (by omega)).mono ?_; rintro e w2 ⟨rfl, b2⟩
      rw [hpv.out]
      simp only [resP, vv]
      have HX2 := Lib.hid (HX1.out.next b2)
      clear b2 HX1
      have HX2' := Lib.hid (HX2.out.next ((Below.refl _ _).alloc (Nat.le_refl _) (.cells #[.int .i64 v.k, .int .i64 v.n, .string ⟨v.s.toArray⟩] 23)))
      have HY2 : Hid ((w2.alloc (.cells #[.int .i64 v.k, .int .i64 v.n, .string ⟨v.s.toArray⟩] 23)).heap[w2.heap.size]? = some (.cells #[.int .i64 v.k, .int .i64 v.n, .string ⟨v.s.toArray⟩] 23 (0, 0))) := Lib.hid (alloc_at rfl)
      go_wp2_with fail
      refine (rparse_any l _ (by omega)).mono ?_; rintro e w3 ⟨u, rfl, hu, b3⟩
      rw [Hhp.out]
      simp only [Option.isSome_some, vv]
      have hu2 := hu v Hhp.out
      subst hu2
      clear hu
      have BA : Below w3.heap.size w3 (w3.alloc (.cells #[.int .i64 u.k, .int .i64 u.n, .string ⟨u.s.toArray⟩] 23)) := (Below.refl _ _).alloc (Nat.le_refl _) _
      have X3 := Lib.hid ((HX2'.out.next b3).next BA)
      have Y3 := Lib.hid (box_next (box_next HY2.out b3) BA)
      have Z3 : Hid ((w3.alloc (.cells #[.int .i64 u.k, .int .i64 u.n, .string ⟨u.s.toArray⟩] 23)).heap[w3.heap.size]? = some (.cells #[.int .i64 u.k, .int .i64 u.n, .string ⟨u.s.toArray⟩] 23 (0, 0))) := Lib.hid (alloc_at rfl)
      clear b3 BA HX2 HX2' HY2
      have qe := fun w => eql_yes u w
      go_wp2_with fail
      refine wp_region_sched [(0, true), (2, true), (1, false), (3, false), (4, true), (5, true), (6, true), (7, true), (8, true), (9, true), (10, true), (11, true), (12, true), (13, true), (14, true), (15, true), (16, false), (17, true), (18, true)] (by kernel_rfl) (by kernel_rfl) (fun _ _ d _ _ h => by cases d <;> exact h) ?_
      refine sbelow (w0 := w3.alloc (.cells #[.int .i64 u.k, .int .i64 u.n, .string ⟨u.s.toArray⟩] 23)) ((Below.refl _ _).drew) (fun B0 => ?_)
      refine swith (fun W hW => (cells3 (X3.out.next (bthen B0 hW.out)).1)) (fun qx => ?_)
      refine swith (fun W hW => (cells3 (box_next Y3.out (bthen B0 hW.out)))) (fun qy => ?_)
      refine swith (fun W hW => (cells3 (box_next Z3.out (bthen B0 hW.out)))) (fun qz => ?_)
      repeat (first | (refine sreadx rfl rfl ?_; apply Exists.intro; apply And.intro; (· (intro W hW; first | (go_simp; done) | (go_simp; with_reducible rfl) | (go_simp; rw [if_neg (by omega)]; done) | (go_simp; rw [if_neg (by omega)]; with_reducible rfl))); simp only [Act.put, List.setIfInBounds_toArray, List.set_cons_zero, List.set_cons_succ]) | (refine sskip rfl rfl ?_; simp only [Act.put, List.setIfInBounds_toArray, List.set_cons_zero, List.set_cons_succ]))
      refine scall rfl rfl (fun K hK => ?_)
      go_simp
      refine (print_any x _ (by omega) ox.n1 ox.n2).mono ?_; rintro e w5 ⟨rfl, b5⟩
      go_wp2_with fail
      refine hK.out _ _ (by exact b5) ?_
      clear hK K
      try simp only [Act.put, List.setIfInBounds_toArray, List.set_cons_zero, List.set_cons_succ]
      replace qx := fun (W : World) (hW : Grow w5 W) => qx W (Grow.trans (b5) hW)
      replace qy := fun (W : World) (hW : Grow w5 W) => qy W (Grow.trans (b5) hW)
      replace qz := fun (W : World) (hW : Grow w5 W) => qz W (Grow.trans (b5) hW)
      have B5 := bthen B0 b5
      repeat (first | (refine sreadx rfl rfl ?_; apply Exists.intro; apply And.intro; (· (intro W hW; first | (go_simp; done) | (go_simp; with_reducible rfl) | (go_simp; rw [if_neg (by omega)]; done) | (go_simp; rw [if_neg (by omega)]; with_reducible rfl))); simp only [Act.put, List.setIfInBounds_toArray, List.set_cons_zero, List.set_cons_succ]) | (refine sskip rfl rfl ?_; simp only [Act.put, List.setIfInBounds_toArray, List.set_cons_zero, List.set_cons_succ]))
      refine scall rfl rfl (fun K hK => ?_)
      go_simp
      refine (rprint_any x _ (by omega) ox.n1 ox.n2).mono ?_; rintro e w6 ⟨rfl, b6⟩
      go_wp2_with fail
      refine hK.out _ _ (by exact b6) ?_
      clear hK K
      try simp only [Act.put, List.setIfInBounds_toArray, List.set_cons_zero, List.set_cons_succ]
      replace qx := fun (W : World) (hW : Grow w6 W) => qx W (Grow.trans (b6) hW)
      replace qy := fun (W : World) (hW : Grow w6 W) => qy W (Grow.trans (b6) hW)
      replace qz := fun (W : World) (hW : Grow w6 W) => qz W (Grow.trans (b6) hW)
      have B6 := bthen B5 b6
      repeat (first | (refine sreadx rfl rfl ?_; apply Exists.intro; apply And.intro; (· (intro W hW; first | (go_simp; done) | (go_simp; with_reducible rfl) | (go_simp; rw [if_neg (by omega)]; done) | (go_simp; rw [if_neg (by omega)]; with_reducible rfl))); simp only [Act.put, List.setIfInBounds_toArray, List.set_cons_zero, List.set_cons_succ]) | (refine sskip rfl rfl ?_; simp only [Act.put, List.setIfInBounds_toArray, List.set_cons_zero, List.set_cons_succ]))
      refine scall rfl rfl (fun K hK => ?_)
      go_simp
      refine (lives_any _).mono ?_; rintro e w7 ⟨rfl, b7⟩
      go_wp2_with fail
      refine hK.out _ _ (by exact b7) ?_
      clear hK K
      try simp only [Act.put, List.setIfInBounds_toArray, List.set_cons_zero, List.set_cons_succ]
      repeat (first | (refine sreadx rfl rfl ?_; apply Exists.intro; apply And.intro; (· (intro W hW; first | (go_simp; done) | (go_simp; with_reducible rfl) | (go_simp; rw [if_neg (by omega)]; done) | (go_simp; rw [if_neg (by omega)]; with_reducible rfl))); simp only [Act.put, List.setIfInBounds_toArray, List.set_cons_zero, List.set_cons_succ]) | (refine sskip rfl rfl ?_; simp only [Act.put, List.setIfInBounds_toArray, List.set_cons_zero, List.set_cons_succ]))
      refine sdone ?_
      go_wp2_with fail
      go_ret
      exact ⟨rfl, (X3.out.next (bthen B6 b7)).2⟩
  · go_enter Try.func8, Try.ntmps8
    go_wp2_with fail
    refine (light_any x _ (by omega)).mono ?_; rintro e w1 ⟨rfl, b1⟩
    rw [show decide ((x.s.length : Int) ≤ 100) = false by simp; omega]
    have B1 : Below w.heap.size w w1 := bthen (by repeat (first | exact Below.refl _ _ | refine Below.alloc ?_ (by simp <;> omega) _)) b1
    go_wp2_with fail
    refine (lives_any _).mono ?_; rintro e w2 ⟨rfl, b2⟩
    go_wp2_with fail
    go_ret
    exact ⟨rfl, bthen B1 b2⟩
end Go.Proofs.Ytpkoijlbbfffiaa.valueTexts
