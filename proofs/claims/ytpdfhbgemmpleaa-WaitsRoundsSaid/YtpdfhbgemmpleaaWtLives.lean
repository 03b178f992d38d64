/- law22's lives. -/
import Derived.Test.YtpdfhbgemmpleaaWtStuck
import Derived.Test.YtpdfhbgemmpleaaWtRef
import Derived.Test.YtpdfhbgemmpleaaSchedApp
namespace Go.Proofs.Ytpdfhbgemmpleaa.T
open Go.RowKit

/-- What cannot be left. -/
theorem Reach.stay {E : Int → List Int} {p : Int → Prop} (h : ∀ x, p x → ∀ y ∈ E x, p y) {x y : Int} (hx : p x) (hr : Reach E x y) : p y := by
  induction hr with
  | one h1 => exact h _ hx _ h1
  | more _ h2 ih => exact h _ ih _ h2
def L0 : Gr := [(1, [2]), (2, [3]), (3, [1]), (4, [1])]
theorem L0_ok : GOk L0 := by
  refine ⟨by decide, ?_, ?_, ?_⟩ <;> intro p hp <;> simp [L0] at hp <;> rcases hp with rfl | rfl | rfl | rfl <;> simp [wf]
theorem L0_for (x : Int) : forE L0 x = if x = 1 then [2] else if x = 2 then [3] else if x = 3 then [1] else if x = 4 then [1] else [] := by
  simp only [L0, forE]
  repeat' split
  all_goals first | rfl | omega
theorem L0_stay {x y : Int} (hx : x = 1 ∨ x = 2 ∨ x = 3) (h : Reach (forE L0) x y) : y = 1 ∨ y = 2 ∨ y = 3 := by
  refine Reach.stay (p := fun x => x = 1 ∨ x = 2 ∨ x = 3) (fun a ha b hb => ?_) hx h
  rw [L0_for] at hb
  rcases ha with rfl | rfl | rfl <;> simp at hb <;> omega
theorem L0_round {l : List Int} (h : IsRow (roundP L0 1) l) : l = [1, 2, 3] := by
  have r12 : Reach (forE L0) 1 2 := .one (by simp [L0_for])
  have r23 : Reach (forE L0) 2 3 := .one (by simp [L0_for])
  have r31 : Reach (forE L0) 3 1 := .one (by simp [L0_for])
  refine h.uniq ⟨by simp, fun x => ?_⟩
  constructor
  · intro hx
    simp at hx
    rcases hx with rfl | rfl | rfl
    · exact ⟨(r12.trans r23).trans r31, (r12.trans r23).trans r31⟩
    · exact ⟨r12, r23.trans r31⟩
    · exact ⟨r12.trans r23, r31⟩
  · rintro ⟨hx, _⟩
    have := L0_stay (.inl rfl) hx
    simp; omega
theorem L0_runs {l : List Int} (h : IsRow (runsP L0 4) l) : l = [] := by
  refine h.uniq ⟨by simp, fun x => ?_⟩
  refine ⟨fun hx => by simp at hx, ?_⟩
  rintro ⟨hx, h0⟩
  exfalso
  have : x = 1 ∨ x = 2 ∨ x = 3 ∨ x = 4 := by
    rcases hx with hx | rfl
    · refine Reach.stay (p := fun x => x = 1 ∨ x = 2 ∨ x = 3 ∨ x = 4) (fun a ha b hb => ?_) (.inr (.inr (.inr rfl))) hx
      rw [L0_for] at hb
      rcases ha with rfl | rfl | rfl | rfl <;> simp at hb <;> omega
    · omega
  rw [L0_for] at h0
  rcases this with rfl | rfl | rfl | rfl <;> simp at h0
theorem nrow_made (w : World) (l : List Int) {e : TypeId} {n b : Nat} (hn : l.length = n) (hb : b = w.heap.size) : NRow (w.alloc (.cells (iv l).toArray e)) (some ⟨b, 0, none⟩) n n l :=
  ⟨by have := Rd.made w (iv l) (e := e) (size := 1) (n := n) (by simp [hn]) hb; simpa using this, Nat.le_refl _⟩
theorem bsz (w : World) (o : Obj) : Below w.heap.size w (w.alloc o) := (Below.refl _ _).alloc (Nat.le_refl _) _
set_option maxHeartbeats 2000000 in
set_option maxRecDepth 100000 in
theorem lives_any (w : World) : Calls Try.prog 10 #[] w fun e w' => e = .returned (.bool true) ∧ Below w.heap.size w w' := by
  have HG : Hid (∀ w : World, GRow (((((w.alloc (.cells #[.int .i64 2] 3)).alloc (.cells #[.int .i64 3] 3)).alloc (.cells #[.int .i64 1] 3)).alloc (.cells #[.int .i64 1] 3)).alloc
      (.cells #[.int .i64 1, .slice (some ⟨w.heap.size, 0, none⟩) 1 1, .int .i64 2, .slice (some ⟨w.heap.size + 1, 0, none⟩) 1 1, .int .i64 3, .slice (some ⟨w.heap.size + 2, 0, none⟩) 1 1, .int .i64 4, .slice (some ⟨w.heap.size + 3, 0, none⟩) 1 1] 29))
      (some ⟨w.heap.size + 4, 0, none⟩) 4 4 L0) := Lib.hid fun w => by
    have n1 := nrow_made w [2] (e := 3) (n := 1) (b := w.heap.size) rfl rfl
    have n2 := nrow_made (w.alloc (.cells #[.int .i64 2] 3)) [3] (e := 3) (n := 1) (b := w.heap.size + 1) rfl (by simp)
    have n3 := nrow_made ((w.alloc (.cells #[.int .i64 2] 3)).alloc (.cells #[.int .i64 3] 3)) [1] (e := 3) (n := 1) (b := w.heap.size + 2) rfl (by simp)
    have n4 := nrow_made (((w.alloc (.cells #[.int .i64 2] 3)).alloc (.cells #[.int .i64 3] 3)).alloc (.cells #[.int .i64 1] 3)) [1] (e := 3) (n := 1) (b := w.heap.size + 3) rfl (by simp)
    refine ⟨⟨_, Rd.more (Rd.made _ [.int .i64 1, .slice (some ⟨w.heap.size, 0, none⟩) 1 1, .int .i64 2, .slice (some ⟨w.heap.size + 1, 0, none⟩) 1 1, .int .i64 3, .slice (some ⟨w.heap.size + 2, 0, none⟩) 1 1, .int .i64 4, .slice (some ⟨w.heap.size + 3, 0, none⟩) 1 1] (e := 29) (size := 2) (n := 4) rfl (by simp)) (by simp), ?_⟩, Nat.le_refl _⟩
    exact ⟨_, _, rfl, ⟨_, _, _, rfl, (((n1.next (bsz _ _)).next (bsz _ _)).next (bsz _ _)).next (bsz _ _)⟩, _, _, rfl, ⟨_, _, _, rfl, ((n2.next (bsz _ _)).next (bsz _ _)).next (bsz _ _)⟩, _, _, rfl, ⟨_, _, _, rfl, (n3.next (bsz _ _)).next (bsz _ _)⟩, _, [], rfl, ⟨_, _, _, rfl, n4.next (bsz _ _)⟩, rfl⟩
  have HB : Hid (∀ (w : World) (a b c d e : Obj), Below w.heap.size w (((((w.alloc a).alloc b).alloc c).alloc d).alloc e)) := Lib.hid fun w a b c d e => bthen (bthen (bthen (bthen (bsz w a) (bsz _ b)) (bsz _ c)) (bsz _ d)) (bsz _ e)
  go_enter Try.func10, Try.ntmps10
  go_wp2_with fail
  refine (victim_any _ _ _ L0 1 _ (HG.out w) L0_ok (by unfold wf; omega)).mono ?_; rintro e w2 ⟨⟨l, v, hr, rfl, rfl⟩, b2⟩
  obtain rfl := L0_round hr
  have G2 := Lib.hid ((HG.out w).next b2)
  have B2 := Lib.hid (bthen (HB.out w _ _ _ _ _) b2)
  clear hr b2 HG
  rw [show lastI [1, 2, 3] = 3 from rfl, show (!List.isEmpty ([1, 2, 3] : List Int)) = true from rfl]
  go_wp2_with fail
  refine (round_any _ _ _ L0 1 _ G2.out L0_ok (by unfold wf; omega)).mono ?_; rintro e w3 ⟨A3, n3, c3, l3, rfl, o3, r3, b3⟩
  obtain rfl := L0_round r3
  have G3 := Lib.hid (G2.out.next b3)
  have B3 := Lib.hid (bthen B2.out b3)
  obtain rfl : n3 = 3 := by have := o3.1; simpa using this.symm
  have HO3 := Lib.hid (NRow.own o3)
  clear r3 o3 b3 G2 B2
  go_wp2_with fail
  refine (same_any _ _ _ _ _ _ [1, 2, 3] [1, 2, 3] _ (HO3.out.next (bsz _ _)) (nrow_made _ [1, 2, 3] (n := 3) rfl rfl) (by omega) (by omega)).mono ?_; rintro e w4 ⟨rfl, b4⟩
  have G4 := Lib.hid ((G3.out.next (bsz _ _)).next b4)
  have B4 := Lib.hid (bthen (bthen B3.out (bsz _ _)) b4)
  clear b4 G3 B3 HO3
  rw [show decide (([1, 2, 3] : List Int) = [1, 2, 3]) = true from rfl]
  go_wp2_with fail
  refine (runs_any _ _ _ L0 4 _ G4.out L0_ok (by unfold wf; omega)).mono ?_; rintro e w5 ⟨A5, n5, c5, l5, rfl, o5, r5, b5⟩
  obtain rfl := L0_runs r5
  obtain rfl : n5 = 0 := by have := o5.1; simpa using this.symm
  have B5 := Lib.hid (bthen B4.out b5)
  clear b5 r5 o5 G4 B4
  go_wp2_with fail
  go_ret
  exact ⟨rfl, B5.out⟩
end Go.Proofs.Ytpdfhbgemmpleaa.T
