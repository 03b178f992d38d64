/- DiskPlays' walk. -/
import Derived.Test.YtkcehoejcklmfaaDiskLoop
import Derived.Test.YtkcehoejcklmfaaDiskOpen
namespace Go.Proofs.Ytkcehoejcklmfaa.diskPlays
open Go.RowKit D O K

set_option maxRecDepth 100000 in
set_option maxHeartbeats 4000000 in
theorem walk (room : Int) (v : Value) (l : List D.Op) (w : World) (hx0 : (Lit.int .i64 room).wf = true) (h1 : IsOps w w.heap.size v l) :
    Calls Try.prog 5 #[.int .i64 room, v] w fun e w' => e = .returned (.bool true) ∧ Below w.heap.size w w' := by
  obtain ⟨bw, hbw⟩ : ∃ bw : Nat, w.heap.size = bw := ⟨_, rfl⟩
  clear hx0
  have HI := Lib.hid h1; clear h1
  have HBW := Lib.hid hbw; clear hbw
  go_enter Try.func5, Try.ntmps5
  go_wp2_with fail
  refine (new_any room w).mono ?_; rintro e w1 ⟨rfl, b1, d1⟩
  have s1 := d1.lt.2.1
  go_wp2_with fail
  refine (rnew_any room w1 w.heap.size none s1 (by intro k hk; cases hk)).mono ?_; rintro e w2 ⟨v2, rfl, ⟨Z, c, Z', c', rfl, x1, x2⟩, b2⟩
  have s2 := b2.size
  go_wp2_with fail
  have ba : Below w2.heap.size w2 (w2.alloc (.cells #[.int .i64 ((newS room).room : Int), str (newS room).sure, str (newS room).rest, .slice Z 2 c, .slice Z' 2 c'] 27)) := (Below.refl _ _).alloc (Nat.le_refl _) _
  refine (alike_any ((d1.below b2).below ba) ⟨_, _, _, _, rfl, x1.below ba, x2.below ba⟩ (by simp [newS]) (by simp [newS])).mono ?_; rintro e w4 ⟨rfl, b4⟩
  go_wp2_with fail
  refine (cut_any v l w4 (HI.out.keep (bthen b1 (bthen b2 (bthen ba b4)))) (by have := b1.size; have := b4.size; simp at this; omega)).mono ?_; rintro e w5 ⟨A, n, ca, xs, rfl, own, reps, b5⟩
  have L0 := K.Loop.start b1 d1 b2 x1 x2 b4 b5 own
  have hreps := reps.imp (OpC.back (bthen b1 (bthen b2 (bthen ba b4))))
  have hln := L0.row.len_of OpC.size hreps (by omega)
  have hsm := cutL_small l
  have hn40 : n ≤ 40 := by rw [← hln]; simp [cutL]; omega
  generalize hl' : cutL l = l' at *
  clear hl' reps own b5 b4 ba x1 x2 b2 d1 b1 s1 s2
  subst hln
  have Hhreps := Lib.hid hreps; clear hreps
  have HL0 := Lib.hid L0; clear L0
  have Hhsm := Lib.hid hsm; clear hsm
  go_wp2_with fail
  go_loopw [26] (fun i wr => ∃ (k : Nat) (r : Option Nat), k ≤ l'.length ∧ i = .int .i64 k ∧ K.Loop w w.heap.size w.heap.size w2.heap.size r A l'.length xs ((newS room).steps (l'.take k)) wr) (fun i _ => l'.length - (intOf i).toNat)
  case atStart => exact ⟨0, none, Nat.zero_le _, rfl, HL0.out⟩
  case round =>
    obtain ⟨k, r, hk, rfl, L⟩ := hrel
    by_cases hlt : k < l'.length
    · obtain ⟨b, off, vs, rfl, hbl, ⟨A3, m3, c3, rfl, hr3, hm3, hc3⟩, hc⟩ := L.row.elem OpC.size Hhreps.out hlt (by omega)
      have t0 := hc 0 (by omega)
      have t1 := hc 1 (by omega)
      have t2 := hc 2 (by omega)
      simp at t0 t1 t2
      have hob := Hhsm.out _ (List.getElem_mem hlt)
      have hm3' : m3 ≤ 200 := by have := hr3.1; simp at this; omega
      have hst := steps_snoc (newS room) l' k hlt
      have hsm2 := (small_new room).steps (l'.take (k + 1)) (fun o ho => by have := Hhsm.out o (List.mem_of_mem_take ho); omega)
      rw [hst] at hsm2
      generalize l'[k] = o at *
      have hB : w.heap.size ≤ wr.heap.size := L.below.size
      obtain ⟨Zb, cb, Zb', cb', hbox⟩ := L.box
      obtain ⟨⟨a0, a1, a2, a3, a4⟩, f0, f1, f2, f3, f4⟩ := cells5 hbox.1
      have hbxl := lt_of_block hbox.1
      have hd := L.disk
      have hrB := hr3.below L.below
      generalize (newS room).steps (l'.take k) = s at *
      have Hhst := Lib.hid hst; clear hst
      have HL := Lib.hid L; clear L
      have Hhbox := Lib.hid hbox; clear hbox
      have Hhd := Lib.hid hd; clear hd
      have HhrB := Lib.hid hrB; clear hrB
      have Hhc := Lib.hid hc; clear hc
      have Hhr3 := Lib.hid hr3; clear hr3
      have Hhsm2 := Lib.hid hsm2; clear hsm2
      go_wp2_with fail
      refine (do_any o A3 m3 c3 (Hhd.out.below ((Below.refl _ _).alloc (Nat.le_refl _) _)) (Hhbox.out.ref.below ((Below.refl _ _).alloc (Nat.le_refl _) _)) (by simp <;> omega) (HhrB.out.below ((Below.refl _ _).alloc hB _)) (by omega)).mono ?_; rintro e w6 ⟨v6, r6, rfl, d6, x6, o6, n6⟩
      have X6 := Lib.hid x6
      obtain ⟨Z6, c6, Z6', c6', rfl, y1, y2⟩ := x6
      have bx6 := blk_only o6 (blk_alloc Hhbox.out.1 _) HL.out.bxg HL.out.bxr
      have hsm := Hhsm2.out
      have b8' := (Below.refl w6.heap.size w6).alloc (Nat.le_refl _) (.cells #[.int .i64 ((s.step o).room : Int), str (s.step o).sure, str (s.step o).rest, .slice Z6 2 c6, .slice Z6' 2 c6'] 27)
      have d7 := d6.below b8'
      have x7 := X6.out.below b8'
      have D6 := Lib.hid d6; clear d6
      have O6 := Lib.hid o6; clear o6
      have N6 := Lib.hid n6; clear n6
      clear a0 a1 a2 a3 a4 f0 f1 f2 f3 f4 t0 t1 t2 y1 y2
      generalize s.step o = s' at *
      have Hd7 := Lib.hid d7; clear d7
      have Hx7 := Lib.hid x7; clear x7
      have Hb8' := Lib.hid b8'; clear b8'
      have Hbx6 := Lib.hid bx6; clear bx6
      have Hhsm := Lib.hid hsm; clear hsm
      go_wp2_with fail
      refine (alike_any Hd7.out Hx7.out Hhsm.out.1 Hhsm.out.2.1).mono ?_; rintro e w8 ⟨rfl, b8⟩
      obtain ⟨⟨a0, a1, a2, a3, a4⟩, f0, f1, f2, f3, f4⟩ := cells5 (blk_old b8 (blk_alloc Hbx6.out _))
      obtain ⟨⟨g0, g1, g2, g3, g4⟩, -⟩ := cells5 (blk_old b8 (blk_new w6 _))
      have hne : w6.heap.size ≠ w2.heap.size := by have := lt_of_block Hbx6.out; omega
      have B8 := Lib.hid b8; clear b8
      go_wp2_with fail
      go_roundw
      case rel => exact ⟨k + 1, r6, by omega, by go_num, by rw [Hhst.out]; exact HL.out.turn hB ((Below.refl _ _).alloc (Nat.le_refl _) _) O6.out D6.out X6.out N6.out (bthen Hb8'.out B8.out)⟩
      case measure => simp [intOf]; omega
    · have hB := L.below
      go_wp2_with fail
      refine (lives_any _).mono ?_; rintro e w6 ⟨rfl, b6⟩
      go_wp2_with fail
      go_ret
      exact ⟨rfl, hB.trans (b6.mono hB.size)⟩
end Go.Proofs.Ytkcehoejcklmfaa.diskPlays
