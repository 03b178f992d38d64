/- law04's row of things to do, and such a row as an argument. (Printed by gen_walops.py.) -/
import Derived.Test.YtkcehoejcklmfaaDiskOpen
namespace Go.Proofs.Ytkcehoejcklmfaa.L
open Go.RowKit D O K

theorem opElem4 : Elem Try.prog 75 77 3 40 (.agg #[.int .u64 0, .int .i64 0, .slice none 0 0]) := by
  obtain ⟨i, hi, h1, h2, h3⟩ := info_parts (show (Try.prog.info? 77).map (fun i => (i.zero, i.size, i.bytes)) = some (some (.agg #[.int .u64 0, .int .i64 0, .slice none 0 0]), 3, 40) by kernel_rfl)
  exact ⟨Try.underlying75, i, hi, h1, h2, h3, rfl, by omega⟩

set_option maxHeartbeats 1000000 in
theorem row_any (v : Value) (l : List D.Op) (w : World) {B : Nat} (h : IsOps w B v l) (hB : B ≤ w.heap.size) : Calls Try.prog 48 #[v] w (RetO 77 B (cutL l) w) := by
  obtain ⟨A, n, c, xs, rfl, hr, hx, hnc, hcm⟩ := h
  have hln := hr.len_of OpC.size hx (by omega)
  subst hln
  unfold maxLen at hcm
  go_enter Try.func48, Try.ntmps48
  go_wp2_with fail
  go_loopw [3, 8] (fun v i wr => ∃ (k : Nat) (A : Option Addr) (c : Nat) (xs : List Value), k ≤ l.length ∧ k < 40 ∧ i = .int .i64 k ∧ v = .slice A k c ∧ wr.ownsRow w.heap.size 77 3 (.slice A k c) k xs ∧ Reps (OpC w B) ((l.take k).map cutO) xs ∧ Below w.heap.size w wr) (fun _ i _ => l.length - (intOf i).toNat)
  case atStart => exact ⟨0, none, 0, [], Nat.zero_le _, by omega, rfl, rfl, World.ownsRow_nil _ _ _ _, rfl, Below.refl _ _⟩
  case round =>
    obtain ⟨k, A2, c2, ys, hk, hk4, rfl, rfl, hown, hys, hb⟩ := hrel
    by_cases hlt : k < l.length
    · obtain ⟨b, off, vs, rfl, hbl, ⟨A3, m3, c3, rfl, hr3, hm3, hc3⟩, hc⟩ := hr.elem OpC.size hx hlt (by omega)
      have c0 := (hb.cell (p := ⟨b, off + k * 3 + 0, none⟩) (Nat.lt_of_lt_of_le hbl hB)).trans (hc 0 (by omega))
      have c1 := (hb.cell (p := ⟨b, off + k * 3 + 1, none⟩) (Nat.lt_of_lt_of_le hbl hB)).trans (hc 1 (by omega))
      have c2 := (hb.cell (p := ⟨b, off + k * 3 + 2, none⟩) (Nat.lt_of_lt_of_le hbl hB)).trans (hc 2 (by omega))
      simp at c0 c1 c2
      unfold maxLen at hc3
      obtain ⟨x, hx1⟩ : ∃ x : Nat, min m3 200 = x := ⟨_, rfl⟩
      have ex : min (m3 : Int) 200 = (x : Int) := by omega
      have bx : (x : Int) ≤ (c3 : Int) := by omega
      have hx3 : x ≤ 200 := by omega
      have hnew : OpC w B (cutO l[k]) [.int .u64 (l[k].kind : Int), .int .i64 l[k].n, .slice A3 x c3] := ⟨A3, x, c3, rfl, by rw [← hx1]; exact hr3.take_ 200, by omega, by unfold maxLen; omega⟩
      clear hx1
      generalize l[k].kind = kd at *
      generalize l[k].n = nn at *
      have hts : ((l.take (k + 1)).map cutO) = (l.take k).map cutO ++ [cutO l[k]] := by rw [List.take_succ_eq_append_getElem hlt, List.map_append]; rfl
      have Hhx := Lib.hid hx; clear hx
      have Hhr := Lib.hid hr; clear hr
      have Hhown := Lib.hid hown; clear hown
      have Hhys := Lib.hid hys; clear hys
      have Hhb := Lib.hid hb; clear hb
      have Hhr3 := Lib.hid hr3; clear hr3
      have Hhc := Lib.hid hc; clear hc
      have Hhnew := Lib.hid hnew; clear hnew
      have Hhts := Lib.hid hts; clear hts
      by_cases hk9 : k = 39
      · subst hk9
        go_wp2_with (at_builtin; (refine wpList_app rfl (.tmp 20) (.tmp 22) opElem4 rfl w.heap.size ys rfl ((Hhown.out.alloc _).alloc _) rfl [.int .u64 (kd : Int), .int .i64 nn, .slice A3 x c3] (Rd.cells _ _ rfl (by simp)) (OpC.one _ _ Hhnew.out) (by unfold maxLen; omega) (by omega) (by have := Hhb.out.size; simp; omega) ?_; intro A4 c4 w4 hown4 hg4 hr4))
        go_ret
        exact ⟨A4, 40, c4, _, rfl, hown4, by rw [show cutL l = (l.take (39 + 1)).map cutO from rfl, Hhts.out]; exact Hhys.out.append (.one Hhnew.out), below_app ((Hhb.out.alloc Hhb.out.size _).alloc (by have := Hhb.out.size; simp; omega) _) ((Hhown.out.alloc _).alloc _) hg4 (by have := Hhb.out.size; simp; omega)⟩
      · have hk8 : ((k : Int) + 1 == 40) = false := by simp; omega
        go_wp2_with (at_builtin; (refine wpList_app rfl (.tmp 20) (.tmp 22) opElem4 rfl w.heap.size ys rfl ((Hhown.out.alloc _).alloc _) rfl [.int .u64 (kd : Int), .int .i64 nn, .slice A3 x c3] (Rd.cells _ _ rfl (by simp)) (OpC.one _ _ Hhnew.out) (by unfold maxLen; omega) (by omega) (by have := Hhb.out.size; simp; omega) ?_; intro A4 c4 w4 hown4 hg4 hr4))
        go_roundw
        case rel => exact ⟨k + 1, A4, c4, _, by omega, by omega, by go_num, rfl, hown4, by rw [Hhts.out]; exact Hhys.out.append (.one Hhnew.out), below_app ((Hhb.out.alloc Hhb.out.size _).alloc (by have := Hhb.out.size; simp; omega) _) ((Hhown.out.alloc _).alloc _) hg4 (by have := Hhb.out.size; simp; omega)⟩
        case measure => simp [intOf]; omega
    · have hkl : ((l.take k).map cutO) = cutL l := by unfold cutL; rw [List.take_of_length_le (by omega), List.take_of_length_le (by omega)]
      rw [hkl] at hys
      have Hhx := Lib.hid hx; clear hx
      have Hhr := Lib.hid hr; clear hr
      have Hhown := Lib.hid hown; clear hown
      have Hhys := Lib.hid hys; clear hys
      have Hhb := Lib.hid hb; clear hb
      have Hhkl := Lib.hid hkl; clear hkl
      go_wp2_with fail
      go_ret
      exact ⟨A2, k, c2, ys, rfl, Hhown.out, Hhys.out, Hhb.out⟩
end Go.Proofs.Ytkcehoejcklmfaa.L
namespace Go.Proofs.Ytkcehoejcklmfaa
open Go.ChangeShapes Go.WideShapes Go.ChangeAt Go.RowKit Go.Deep K

section
variable {H : Type} {enc : TypeId × Value → H} {W : World} {base : Nat} {spare : Nat → Bool} {held : Bool}
theorem opens_op4 : Opens enc Try.prog W base spare held 77 (OpC W W.heap.size) := by
  intro fuel cs x h
  obtain ⟨hl, n, hf⟩ := opens_fields Try.underlying77 (by kernel_rfl) h
  have h3 : cs.length = 3 := hl.trans (by kernel_rfl)
  match cs, h3 with
  | [v0, v1, v2], _ =>
    obtain ⟨y0, t0⟩ := hf 0 _ v0 rfl rfl
    obtain ⟨y1, t1⟩ := hf 1 _ v1 rfl rfl
    obtain ⟨y2, t2⟩ := hf 2 _ v2 rfl rfl
    obtain ⟨k, e0, _, hk⟩ := DataW.trod_int (k := .u64) Try.underlying30 t0
    obtain ⟨m, e1, _, hm⟩ := DataW.trod_int (k := .i64) Try.underlying3 t1
    obtain ⟨l, A, len, cap, e2, hb, hlc, hcm⟩ := opens_bytes Try.underlying31 Try.underlying5 (by kernel_rfl) _ _ _ t2
    injection e0 with e0
    injection e1 with e1
    injection e2 with e2
    subst e0 e1 e2
    have hk' := bounds_u64 hk
    refine ⟨⟨k.toNat, m, l⟩, A, len, cap, ?_, hb, hlc, hcm⟩
    have : ((k.toNat : Nat) : Int) = k := by omega
    simp [this]
set_option maxRecDepth 100000 in
theorem open_billhooklaw04_Op {r : Reach} {b0 : Nat} {v : Value} {d : DataW H} {p : List MemPlace} (hv : Value.okWide Try.prog W r b0 75 v) (h : DataW.Trod enc Try.prog W base spare held 75 v d p) : ∃ l, IsOps W W.heap.size v l := by
  obtain ⟨l, A, n, c, xs, h1⟩ := open_rows_arg OpC.size (by omega) Try.underlying75 (by kernel_rfl) opens_op4 hv h
  exact ⟨l, A, n, c, xs, h1⟩
end
end Go.Proofs.Ytkcehoejcklmfaa
