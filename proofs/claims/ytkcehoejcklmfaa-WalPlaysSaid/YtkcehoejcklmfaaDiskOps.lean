/- The rows of things to do (billhooklaw03's cut, billhooklaw04's row). -/
import Derived.Test.YtkcehoejcklmfaaDiskRef
namespace Go.Proofs.Ytkcehoejcklmfaa.K
open Go.RowKit D O

/-- The cells of one thing that is done; its bytes lie below B. -/
def OpC (w : World) (B : Nat) (o : D.Op) (vs : List Value) : Prop := ∃ A m c, vs = [.int .u64 (o.kind : Int), .int .i64 o.n, .slice A m c] ∧ Rd w B 1 A m (bv o.b) ∧ m ≤ c ∧ c ≤ maxLen
theorem OpC.size {w : World} {B : Nat} : ∀ (o : D.Op) vs, OpC w B o vs → vs.length = 3 := by rintro o vs ⟨A, m, c, rfl, _⟩; rfl
theorem OpC.one {w : World} {B : Nat} : ∀ (o : D.Op) vs, OpC w B o vs → ∀ u ∈ vs, u.oneCell' = true := by
  rintro o vs ⟨A, m, c, rfl, _⟩ u hu
  simp at hu
  rcases hu with rfl | rfl | rfl <;> rfl
/-- A row of things to do that came in. -/
def IsOps (w : World) (B : Nat) (v : Value) (l : List D.Op) : Prop := ∃ A n c xs, v = .slice A n c ∧ Rd w B 3 A n xs ∧ Reps (OpC w B) l xs ∧ n ≤ c ∧ c ≤ maxLen
theorem OpC.keep {w w' : World} {B : Nat} (hb : Below B w w') : ∀ (o : D.Op) vs, OpC w B o vs → OpC w' B o vs := by
  rintro o vs ⟨A, m, c, e, h, hc⟩
  exact ⟨A, m, c, e, h.below hb, hc⟩
theorem OpC.back {w w' : World} {B : Nat} (hb : Below B w w') : ∀ (o : D.Op) vs, OpC w' B o vs → OpC w B o vs := by
  rintro o vs ⟨A, m, c, e, h, hc⟩
  exact ⟨A, m, c, e, h.keep (fun p hp => (hb.cell hp).symm), hc⟩
theorem IsOps.keep {w w' : World} {B : Nat} {v : Value} {l : List D.Op} (h : IsOps w B v l) (hb : Below B w w') : IsOps w' B v l := by
  obtain ⟨A, n, c, xs, e, h1, h2, h3⟩ := h
  exact ⟨A, n, c, xs, e, h1.below hb, h2.imp (OpC.keep hb), h3⟩
def cutO (o : D.Op) : D.Op := { o with b := o.b.take 200 }
def cutL (l : List D.Op) : List D.Op := (l.take 40).map cutO
/-- A block that was just made, as a row. -/
theorem Rd.cells (w : World) (cs : List Value) {e size n b : Nat} (hn : cs.length = n * size) (hb : b = w.heap.size) : Rd (w.alloc (.cells cs.toArray e)) (w.heap.size + 1) size (some ⟨b, 0, none⟩) n cs := by
  subst hb
  refine ⟨hn, fun _ => ⟨w.heap.size, 0, rfl, by omega, fun j hj => ?_⟩⟩
  rw [Nat.zero_add, cell_of_row _ w.heap.size j _ e _ (heap_alloc_new w _)]
  simp
/-- What a row of at most 40 things is. -/
def RetO (e : TypeId) (B : Nat) (l : List D.Op) (w : World) (r : Ending) (w' : World) : Prop := ∃ A n c xs, r = .returned (.slice A n c) ∧ w'.ownsRow w.heap.size e 3 (.slice A n c) n xs ∧ Reps (OpC w B) l xs ∧ Below w.heap.size w w'

theorem opElem : Elem Try.prog 22 33 3 40 (.agg #[.int .u64 0, .int .i64 0, .slice none 0 0]) := by
  obtain ⟨i, hi, h1, h2, h3⟩ := info_parts (show (Try.prog.info? 33).map (fun i => (i.zero, i.size, i.bytes)) = some (some (.agg #[.int .u64 0, .int .i64 0, .slice none 0 0]), 3, 40) by kernel_rfl)
  exact ⟨Try.underlying22, i, hi, h1, h2, h3, rfl, by omega⟩

set_option maxHeartbeats 1000000 in
theorem cut_any (v : Value) (l : List D.Op) (w : World) {B : Nat} (h : IsOps w B v l) (hB : B ≤ w.heap.size) : Calls Try.prog 17 #[v] w (RetO 33 B (cutL l) w) := by
  obtain ⟨A, n, c, xs, rfl, hr, hx, hnc, hcm⟩ := h
  have hln := hr.len_of OpC.size hx (by omega)
  subst hln
  unfold maxLen at hcm
  go_enter Try.func17, Try.ntmps17
  go_wp2_with fail
  go_loopw [3, 8] (fun v i wr => ∃ (k : Nat) (A : Option Addr) (c : Nat) (xs : List Value), k ≤ l.length ∧ k < 40 ∧ i = .int .i64 k ∧ v = .slice A k c ∧ wr.ownsRow w.heap.size 33 3 (.slice A k c) k xs ∧ Reps (OpC w B) ((l.take k).map cutO) xs ∧ Below w.heap.size w wr) (fun _ i _ => l.length - (intOf i).toNat)
  case atStart => exact ⟨0, none, 0, [], Nat.zero_le _, by omega, rfl, rfl, World.ownsRow_nil _ _ _ _, rfl, Below.refl _ _⟩
  case round =>
    obtain ⟨k, A2, c2, ys, hk, hk4, rfl, rfl, hown, hys, hb⟩ := hrel
    by_cases hlt : k < l.length
    · obtain ⟨b, off, vs, rfl, hbl, ⟨A3, m3, c3, rfl, hr3, hm3, hc3⟩, hc⟩ := hr.elem OpC.size hx hlt (by omega)
      have c0 := (hb.cell (p := ⟨b, off + k * 3 + 0, none⟩) (Nat.lt_of_lt_of_le hbl hB)).trans (hc 0 (by omega))
      have c1 := (hb.cell (p := ⟨b, off + k * 3 + 1, none⟩) (Nat.lt_of_lt_of_le hbl hB)).trans (hc 1 (by omega))
      have c2 := (hb.cell (p := ⟨b, off + k * 3 + 2, none⟩) (Nat.lt_of_lt_of_le hbl hB)).trans (hc 2 (by omega))
      simp at c0 c1 c2
      unfold maxLen at hc3
      obtain ⟨x, hx1⟩ : ∃ x : Nat, min m3 200 = x := ⟨_, rfl⟩
      have ex : min (m3 : Int) 200 = (x : Int) := by omega
      have bx : (x : Int) ≤ (c3 : Int) := by omega
      have hx3 : x ≤ 200 := by omega
      have hnew : OpC w B (cutO l[k]) [.int .u64 (l[k].kind : Int), .int .i64 l[k].n, .slice A3 x c3] := ⟨A3, x, c3, rfl, by rw [← hx1]; exact hr3.take_ 200, by omega, by unfold maxLen; omega⟩
      clear hx1
      generalize l[k].kind = kd at *
      generalize l[k].n = nn at *
      have hts : ((l.take (k + 1)).map cutO) = (l.take k).map cutO ++ [cutO l[k]] := by rw [List.take_succ_eq_append_getElem hlt, List.map_append]; rfl
      have Hhx := Lib.hid hx; clear hx
      have Hhr := Lib.hid hr; clear hr
      have Hhown := Lib.hid hown; clear hown
      have Hhys := Lib.hid hys; clear hys
      have Hhb := Lib.hid hb; clear hb
      have Hhr3 := Lib.hid hr3; clear hr3
      have Hhc := Lib.hid hc; clear hc
      have Hhnew := Lib.hid hnew; clear hnew
      have Hhts := Lib.hid hts; clear hts
      by_cases hk9 : k = 39
      · subst hk9
        go_wp2_with (at_builtin; (refine wpList_app rfl (.tmp 20) (.tmp 22) opElem rfl w.heap.size ys rfl ((Hhown.out.alloc _).alloc _) rfl [.int .u64 (kd : Int), .int .i64 nn, .slice A3 x c3] (Rd.cells _ _ rfl (by simp)) (OpC.one _ _ Hhnew.out) (by unfold maxLen; omega) (by omega) (by have := Hhb.out.size; simp; omega) ?_; intro A4 c4 w4 hown4 hg4 hr4))
        go_ret
        exact ⟨A4, 40, c4, _, rfl, hown4, by rw [show cutL l = (l.take (39 + 1)).map cutO from rfl, Hhts.out]; exact Hhys.out.append (.one Hhnew.out), below_app ((Hhb.out.alloc Hhb.out.size _).alloc (by have := Hhb.out.size; simp; omega) _) ((Hhown.out.alloc _).alloc _) hg4 (by have := Hhb.out.size; simp; omega)⟩
      · have hk8 : ((k : Int) + 1 == 40) = false := by simp; omega
        go_wp2_with (at_builtin; (refine wpList_app rfl (.tmp 20) (.tmp 22) opElem rfl w.heap.size ys rfl ((Hhown.out.alloc _).alloc _) rfl [.int .u64 (kd : Int), .int .i64 nn, .slice A3 x c3] (Rd.cells _ _ rfl (by simp)) (OpC.one _ _ Hhnew.out) (by unfold maxLen; omega) (by omega) (by have := Hhb.out.size; simp; omega) ?_; intro A4 c4 w4 hown4 hg4 hr4))
        go_roundw
        case rel => exact ⟨k + 1, A4, c4, _, by omega, by omega, by go_num, rfl, hown4, by rw [Hhts.out]; exact Hhys.out.append (.one Hhnew.out), below_app ((Hhb.out.alloc Hhb.out.size _).alloc (by have := Hhb.out.size; simp; omega) _) ((Hhown.out.alloc _).alloc _) hg4 (by have := Hhb.out.size; simp; omega)⟩
        case measure => simp [intOf]; omega
    · have hkl : ((l.take k).map cutO) = cutL l := by unfold cutL; rw [List.take_of_length_le (by omega), List.take_of_length_le (by omega)]
      rw [hkl] at hys
      have Hhx := Lib.hid hx; clear hx
      have Hhr := Lib.hid hr; clear hr
      have Hhown := Lib.hid hown; clear hown
      have Hhys := Lib.hid hys; clear hys
      have Hhb := Lib.hid hb; clear hb
      have Hhkl := Lib.hid hkl; clear hkl
      go_wp2_with fail
      go_ret
      exact ⟨A2, k, c2, ys, rfl, Hhown.out, Hhys.out, Hhb.out⟩
end Go.Proofs.Ytkcehoejcklmfaa.K
