/- DiskTwice' walk. (Printed by gen_disklaws.py.) -/
import Derived.Test.YtkcehoejcklmfaaDiskSame2
import Derived.Test.YtkcehoejcklmfaaDiskOpen
namespace Go.Proofs.Ytkcehoejcklmfaa.diskTwice
open Go.RowKit D O K

set_option maxRecDepth 100000 in
set_option maxHeartbeats 8000000 in
theorem walk (v : Value) (l : List D.Op) (keep again : Int) (w : World) (h1 : IsOps w w.heap.size v l) (hx0 : (Lit.int .i64 keep).wf = true) (hx1 : (Lit.int .i64 again).wf = true) :
    Calls Try.prog 7 #[v, .int .i64 keep, .int .i64 again] w fun e w' => e = .returned (.bool true) ∧ Below w.heap.size w w' := by
  have HI := Lib.hid h1; clear h1 hx0 hx1
  go_enter Try.func7, Try.ntmps7
  go_wp2_with fail
  refine (new_any 4096 w).mono ?_; rintro e w1 ⟨rfl, b1, d1⟩
  have s1 := d1.lt.2.1
  go_wp2_with fail
  refine (rnew_any 4096 w1 w.heap.size none s1 (by intro k hk; cases hk)).mono ?_; rintro e w2 ⟨v2, rfl, ⟨Z, c, Z', c', rfl, x1, x2⟩, b2⟩
  have s2 := b2.size
  have ba : Below w2.heap.size w2 (w2.alloc (.cells #[.int .i64 ((newS 4096).room : Int), str (newS 4096).sure, str (newS 4096).rest, .slice Z 2 c, .slice Z' 2 c'] 27)) := (Below.refl _ _).alloc (Nat.le_refl _) _
  go_wp2_with fail
  refine (cut_any v l _ (HI.out.keep (bthen b1 (bthen b2 ba))) (by have := b1.size; simp; omega)).mono ?_; rintro e w5 ⟨A, n, ca, xs, rfl, own, reps, b5⟩
  have L0 := K.Loop.start b1 d1 b2 x1 x2 (Below.refl _ _) b5 own
  have hreps := reps.imp (OpC.back (bthen b1 (bthen b2 ba)))
  have hln := L0.row.len_of OpC.size hreps (by omega)
  have hsm := cutL_small l
  have hn40 : n ≤ 40 := by rw [← hln]; simp [cutL]; omega
  generalize hl' : cutL l = l' at *
  clear hl' reps own b5 ba x1 x2 b2 d1 b1 s1 s2
  subst hln
  have Hhreps := Lib.hid hreps; clear hreps
  have HL0 := Lib.hid L0; clear L0
  have Hhsm := Lib.hid hsm; clear hsm
  go_wp2_with fail
  go_loopw [17] (fun i wr => ∃ (k : Nat) (r : Option Nat), k ≤ l'.length ∧ i = .int .i64 k ∧ K.Loop w w.heap.size w.heap.size w2.heap.size r A l'.length xs ((newS 4096).steps (l'.take k)) ((newS 4096).steps (l'.take k)) wr) (fun i _ => l'.length - (intOf i).toNat)
  case atStart => exact ⟨0, none, Nat.zero_le _, rfl, HL0.out⟩
  case round =>
    obtain ⟨k, r, hk, rfl, L⟩ := hrel
    by_cases hlt : k < l'.length
    · obtain ⟨b, off, vs, rfl, hbl, ⟨A3, m3, c3, rfl, hr3, hm3, hc3⟩, hc⟩ := L.row.elem OpC.size Hhreps.out hlt (by omega)
      have t0 := hc 0 (by omega)
      have t1 := hc 1 (by omega)
      have t2 := hc 2 (by omega)
      simp at t0 t1 t2
      have hob := Hhsm.out _ (List.getElem_mem hlt)
      have hm3' : m3 ≤ 200 := by have := hr3.1; simp at this; omega
      have hst := steps_snoc (newS 4096) l' k hlt
      generalize l'[k] = o at *
      have hB : w.heap.size ≤ wr.heap.size := L.below.size
      obtain ⟨Zb, cb, Zb', cb', hbox⟩ := L.box
      obtain ⟨⟨a0, a1, a2, a3, a4⟩, f0, f1, f2, f3, f4⟩ := cells5 hbox.1
      have hbxl := lt_of_block hbox.1
      have hd := L.disk
      have hrB := hr3.below L.below
      generalize (newS 4096).steps (l'.take k) = s at *
      have Hhst := Lib.hid hst; clear hst
      have HL := Lib.hid L; clear L
      have Hhbox := Lib.hid hbox; clear hbox
      have Hhd := Lib.hid hd; clear hd
      have HhrB := Lib.hid hrB; clear hrB
      have Hhc := Lib.hid hc; clear hc
      have Hhr3 := Lib.hid hr3; clear hr3
      go_wp2_with fail
      refine (do_any o A3 m3 c3 (Hhd.out.below ((Below.refl _ _).alloc (Nat.le_refl _) _)) (Hhbox.out.ref.below ((Below.refl _ _).alloc (Nat.le_refl _) _)) HL.out.tok (by simp <;> omega) (HhrB.out.below ((Below.refl _ _).alloc hB _)) (by omega)).mono ?_; rintro e w6 ⟨v6, r6, rfl, d6, x6, o6, n6⟩
      have X6 := Lib.hid x6
      obtain ⟨Z6, c6, Z6', c6', rfl, y1, y2⟩ := x6
      have bx6 := blk_only o6 (blk_alloc Hhbox.out.1 _) HL.out.bxg HL.out.bxr
      have D6 := Lib.hid d6; clear d6
      have O6 := Lib.hid o6; clear o6
      have N6 := Lib.hid n6; clear n6
      clear a0 a1 a2 a3 a4 f0 f1 f2 f3 f4 t0 t1 t2 y1 y2
      generalize s.step o = s' at *
      obtain ⟨⟨a0, a1, a2, a3, a4⟩, f0, f1, f2, f3, f4⟩ := cells5 bx6
      have Hbx6 := Lib.hid bx6; clear bx6
      go_wp2_with fail
      go_roundw
      case rel => exact ⟨k + 1, r6, by omega, by go_num, by rw [Hhst.out]; exact HL.out.turn hB ((Below.refl _ _).alloc (Nat.le_refl _) _) O6.out D6.out D6.out.ok X6.out N6.out (Below.refl _ _)⟩
      case measure => simp [intOf]; omega
    · have hk2 : l'.take k = l' := List.take_of_length_le (by omega)
      rw [hk2] at L
      clear hk2
      have hS := (small_new 4096).steps l' (fun o ho => by have := Hhsm.out o ho; omega)
      generalize (newS 4096).steps l' = S at *
      have hB : w.heap.size ≤ wr.heap.size := L.below.size
      have HL := Lib.hid L; clear L
      have HhS := Lib.hid hS; clear hS
      go_wp2_with fail
      refine (crash_any HL.out.disk keep).mono ?_; rintro e w6 ⟨rfl, o6, r6, d6, n6⟩
      have L6 := HL.out.turned hB o6 d6 n6
      have s6 : w.heap.size ≤ w6.heap.size := L6.below.size
      clear o6 n6
      have HL6 := Lib.hid L6; clear L6
      go_wp2_with fail
      refine (clone_any d6).mono ?_; rintro e w7 ⟨r7, rfl, d7, b7⟩
      have s7 := b7.size
      go_wp2_with fail
      refine (crash_any d7 again).mono ?_; rintro e w8 ⟨rfl, t8⟩
      obtain ⟨r8, d8, b8, s8⟩ := t8.next d7 s7
      have b68 := b7.trans b8
      have d8' := d6.below b68
      have hcc : (S.crash keep).crash again = S.crash keep := by simp [St.crash]
      rw [hcc] at d8
      clear hcc t8 d7 b7 b8 s7
      have L8 := HL6.out.keep s6 b68
      have Hd6 := Lib.hid d6; clear d6
      have Hb68 := Lib.hid b68; clear b68
      have HL8 := Lib.hid L8; clear L8
      go_wp2_with fail
      refine (same_any d8 d8').mono ?_; rintro e w9 ⟨rfl, b9⟩
      have L9 := HL8.out.keep (Nat.le_trans s6 s8) b9
      have d9 := d8'.below b9
      obtain ⟨Zb, cb, Zb', cb', hbox⟩ := L9.box
      obtain ⟨⟨a0, a1, a2, a3, a4⟩, f0, f1, f2, f3, f4⟩ := cells5 hbox.1
      clear d8 d8'
      have HL9 := Lib.hid L9; clear L9
      have Hd9 := Lib.hid d9; clear d9
      have Hhbox := Lib.hid hbox; clear hbox
      have Hb9 := Lib.hid b9; clear b9
      go_wp2_with fail
      refine (rcrash_any keep Hhbox.out.ref HL.out.tok).mono ?_; rintro e w10 ⟨v10, rfl, x10, b10⟩
      have hcr : (S.crash keep).n0 = S.s0 ∧ (S.crash keep).n1 = S.s1 := ⟨rfl, rfl⟩
      go_wp2_with fail
      refine (alike_any (Hd9.out.below b10) x10 (by rw [hcr.1]; exact HhS.out.2.2.1) (by rw [hcr.2]; exact HhS.out.2.2.2)).mono ?_; rintro e w11 ⟨rfl, b11⟩
      go_wp2_with fail
      refine (lives_any _).mono ?_; rintro e w12 ⟨rfl, b12⟩
      go_wp2_with fail
      go_ret
      have l9 := HL9.out.below
      exact ⟨rfl, l9.trans ((bthen b10 (bthen b11 b12)).mono l9.size)⟩
end Go.Proofs.Ytkcehoejcklmfaa.diskTwice
