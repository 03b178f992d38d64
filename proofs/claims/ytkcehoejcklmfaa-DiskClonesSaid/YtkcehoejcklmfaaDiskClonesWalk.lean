/- DiskClones' walk. (Printed by gen_disklaws.py.) -/
import Derived.Test.YtkcehoejcklmfaaDiskFr
import Derived.Test.YtkcehoejcklmfaaDiskOpen
namespace Go.Proofs.Ytkcehoejcklmfaa.diskClones
open Go.RowKit D O K

theorem nxt {r0 r r6 : Option Nat} {a b : Nat} (h : r = r0 ∨ r = none ∨ ∃ q, r = some q ∧ a ≤ q) (k : r6 = r ∨ r6 = none ∨ ∃ q, r6 = some q ∧ b ≤ q) (hab : a ≤ b) : r6 = r0 ∨ r6 = none ∨ ∃ q, r6 = some q ∧ a ≤ q := by
  rcases k with rfl | h | ⟨q, e, hq⟩
  · exact h
  · exact .inr (.inl h)
  · exact .inr (.inr ⟨q, e, by omega⟩)

set_option maxRecDepth 100000 in
set_option maxHeartbeats 8000000 in
theorem walk (v : Value) (l : List D.Op) (v' : Value) (l2 : List D.Op) (w : World) (h1 : IsOps w w.heap.size v l) (h2 : IsOps w w.heap.size v' l2) :
    Calls Try.prog 6 #[v, v'] w fun e w' => e = .returned (.bool true) ∧ Below w.heap.size w w' := by
  have HI := Lib.hid h1; clear h1
  have HI2 := Lib.hid h2; clear h2
  go_enter Try.func6, Try.ntmps6
  go_wp2_with fail
  refine (new_any 4096 w).mono ?_; rintro e w1 ⟨rfl, b1, d1⟩
  have s1 := d1.lt.2.1
  go_wp2_with fail
  refine (rnew_any 4096 w1 w.heap.size none s1 (by intro k hk; cases hk)).mono ?_; rintro e w2 ⟨v2, rfl, ⟨Z, c, Z', c', rfl, x1, x2⟩, b2⟩
  have s2 := b2.size
  have ba : Below w2.heap.size w2 (w2.alloc (.cells #[.int .i64 ((newS 4096).room : Int), str (newS 4096).sure, str (newS 4096).rest, .slice Z 2 c, .slice Z' 2 c'] 27)) := (Below.refl _ _).alloc (Nat.le_refl _) _
  go_wp2_with fail
  refine (cut_any v l _ (HI.out.keep (bthen b1 (bthen b2 ba))) (by have := b1.size; simp; omega)).mono ?_; rintro e w5 ⟨A, n, ca, xs, rfl, own, reps, b5⟩
  have L0 := K.Loop.start b1 d1 b2 x1 x2 (Below.refl _ _) b5 own
  have hreps := reps.imp (OpC.back (bthen b1 (bthen b2 ba)))
  have hln := L0.row.len_of OpC.size hreps (by omega)
  have hsm := cutL_small l
  have hn40 : n ≤ 40 := by rw [← hln]; simp [cutL]; omega
  generalize hl' : cutL l = l' at *
  clear hl' reps own b5 ba x1 x2 b2 d1 b1 s1 s2
  subst hln
  have Hhreps := Lib.hid hreps; clear hreps
  have HL0 := Lib.hid L0; clear L0
  have Hhsm := Lib.hid hsm; clear hsm
  go_wp2_with fail
  go_loopw [21] (fun i wr => ∃ (k : Nat) (r : Option Nat), k ≤ l'.length ∧ i = .int .i64 k ∧ K.Loop w w.heap.size w.heap.size w2.heap.size r A l'.length xs ((newS 4096).steps (l'.take k)) ((newS 4096).steps (l'.take k)) wr) (fun i _ => l'.length - (intOf i).toNat)
  case atStart => exact ⟨0, none, Nat.zero_le _, rfl, HL0.out⟩
  case round =>
    obtain ⟨k, r, hk, rfl, L⟩ := hrel
    by_cases hlt : k < l'.length
    · obtain ⟨b, off, vs, rfl, hbl, ⟨A3, m3, c3, rfl, hr3, hm3, hc3⟩, hc⟩ := L.row.elem OpC.size Hhreps.out hlt (by omega)
      have t0 := hc 0 (by omega)
      have t1 := hc 1 (by omega)
      have t2 := hc 2 (by omega)
      simp at t0 t1 t2
      have hob := Hhsm.out _ (List.getElem_mem hlt)
      have hm3' : m3 ≤ 200 := by have := hr3.1; simp at this; omega
      have hst := steps_snoc (newS 4096) l' k hlt
      generalize l'[k] = o at *
      have hB : w.heap.size ≤ wr.heap.size := L.below.size
      obtain ⟨Zb, cb, Zb', cb', hbox⟩ := L.box
      obtain ⟨⟨a0, a1, a2, a3, a4⟩, f0, f1, f2, f3, f4⟩ := cells5 hbox.1
      have hbxl := lt_of_block hbox.1
      have hd := L.disk
      have hrB := hr3.below L.below
      generalize (newS 4096).steps (l'.take k) = s at *
      have Hhst := Lib.hid hst; clear hst
      have HL := Lib.hid L; clear L
      have Hhbox := Lib.hid hbox; clear hbox
      have Hhd := Lib.hid hd; clear hd
      have HhrB := Lib.hid hrB; clear hrB
      have Hhc := Lib.hid hc; clear hc
      have Hhr3 := Lib.hid hr3; clear hr3
      go_wp2_with fail
      refine (do_any o A3 m3 c3 (Hhd.out.below ((Below.refl _ _).alloc (Nat.le_refl _) _)) (Hhbox.out.ref.below ((Below.refl _ _).alloc (Nat.le_refl _) _)) HL.out.tok (by simp <;> omega) (HhrB.out.below ((Below.refl _ _).alloc hB _)) (by omega)).mono ?_; rintro e w6 ⟨v6, r6, rfl, d6, x6, o6, n6⟩
      have X6 := Lib.hid x6
      obtain ⟨Z6, c6, Z6', c6', rfl, y1, y2⟩ := x6
      have bx6 := blk_only o6 (blk_alloc Hhbox.out.1 _) HL.out.bxg HL.out.bxr
      have D6 := Lib.hid d6; clear d6
      have O6 := Lib.hid o6; clear o6
      have N6 := Lib.hid n6; clear n6
      clear a0 a1 a2 a3 a4 f0 f1 f2 f3 f4 t0 t1 t2 y1 y2
      generalize s.step o = s' at *
      obtain ⟨⟨a0, a1, a2, a3, a4⟩, f0, f1, f2, f3, f4⟩ := cells5 bx6
      have Hbx6 := Lib.hid bx6; clear bx6
      go_wp2_with fail
      go_roundw
      case rel => exact ⟨k + 1, r6, by omega, by go_num, by rw [Hhst.out]; exact HL.out.turn hB ((Below.refl _ _).alloc (Nat.le_refl _) _) O6.out D6.out D6.out.ok X6.out N6.out (Below.refl _ _)⟩
      case measure => simp [intOf]; omega
    · have hk2 : l'.take k = l' := List.take_of_length_le (by omega)
      rw [hk2] at L
      clear hk2
      have hS := (small_new 4096).steps l' (fun o ho => by have := Hhsm.out o ho; omega)
      generalize (newS 4096).steps l' = S at *
      have hB : w.heap.size ≤ wr.heap.size := L.below.size
      obtain ⟨wo, rfl⟩ : ∃ wo : World, wo = wr := ⟨_, rfl⟩
      obtain ⟨ld, n0, n1, s0, s1, hld, hrd⟩ := L.disk
      have hbxl : w2.heap.size < wo.heap.size := by obtain ⟨_, _, _, _, hb⟩ := L.box; exact lt_of_block hb.1
      have hrx : blkOf ld.a ≠ some w2.heap.size := by rw [← hrd]; exact L.bxr
      have hgx := L.bxg
      have HL := Lib.hid L; clear L
      have HhS := Lib.hid hS; clear hS
      have Hhrd := Lib.hid hrd; clear hrd
      have Hhrx := Lib.hid hrx; clear hrx
      have Hhgx := Lib.hid hgx; clear hgx
      go_wp2_with fail
      refine (clone_lies hld).mono ?_; rintro e w6 ⟨lc, rfl, hlc, b6⟩
      have hld6 := hld.below b6
      have s6 := b6.size
      have hlt6 := hlc.lt
      go_wp2_with fail
      refine (clone_lies hld6).mono ?_; rintro e w7 ⟨lx, rfl, hlx, b7⟩
      have hlc7 := hlc.below b7
      have hld7 := hld6.below b7
      have b67 := bthen b6 b7
      have L7 := HL.out.keep hB b67
      have s7 : w.heap.size ≤ w7.heap.size := L7.below.size
      have hlt7 := hlx.lt
      have c67 := b7.size
      have Hhld := Lib.hid hld; clear hld
      have Hhlc := Lib.hid hlc; clear hlc
      have Hhld6 := Lib.hid hld6; clear hld6
      have Hb6 := Lib.hid b6; clear b6
      have Hb7 := Lib.hid b7; clear b7
      have HL7 := Lib.hid L7; clear L7
      have Hhlx := Lib.hid hlx; clear hlx
      go_wp2_with fail
      refine (same_any (g := wo.heap.size) (g' := w.heap.size) ⟨_, _, _, _, _, hlc7, rfl⟩ ⟨_, _, _, _, _, hld7, rfl⟩).mono ?_; rintro e w8 ⟨rfl, b8⟩
      have s78 := b8.size
      have L8 := HL7.out.keep s7 b8
      have hlc8 := hlc7.below b8
      have hld8 := hld7.below b8
      have hlx8 := Hhlx.out.below b8
      have s8 : w.heap.size ≤ w8.heap.size := L8.below.size
      have HL8 := Lib.hid L8; clear L8
      have Hhld7 := Lib.hid hld7; clear hld7
      have Hhlc7 := Lib.hid hlc7; clear hlc7
      have Hb8 := Lib.hid b8; clear b8
      have Hb67 := Lib.hid b67; clear b67
      have Hhlc8 := Lib.hid hlc8; clear hlc8
      have Hhld8 := Lib.hid hld8; clear hld8
      have Hhlx8 := Lib.hid hlx8; clear hlx8
      go_wp2_with fail
      refine (cut_any v' l2 w8 (HI2.out.keep HL8.out.below) s8).mono ?_; rintro e w9 ⟨A9, n9, c9, ys, rfl, own9, reps9, b9⟩
      have LL := K.Loop.second HL8.out hbxl hB Hhlc.out Hhlc8.out (by omega) b9 own9
      have hreps9 := reps9.imp (OpC.back HL8.out.below)
      have hld9 := Hhld8.out.below b9
      have hlx9 := Hhlx8.out.below b9
      have hN9 : NoB w9 w2.heap.size := by
        obtain ⟨_, _, _, _, hb⟩ := LL.box
        exact ⟨_, _, hb.1, by simp [noU8], by decide⟩
      have hln9 := LL.row.len_of OpC.size hreps9 (by omega)
      have hsm9 := cutL_small l2
      have hn9 : n9 ≤ 40 := by rw [← hln9]; simp [cutL]; omega
      have s9 := b9.size
      generalize hl2 : cutL l2 = l2' at *
      clear hl2 reps9 own9 b9
      subst hln9
      have Hhreps9 := Lib.hid hreps9; clear hreps9
      have HLL := Lib.hid LL; clear LL
      have Hhsm9 := Lib.hid hsm9; clear hsm9
      have Hhld9 := Lib.hid hld9; clear hld9
      have Hhlx9 := Lib.hid hlx9; clear hlx9
      have HhN9 := Lib.hid hN9; clear hN9
      go_wp2_with fail
      go_loopw [44] (fun i wz => ∃ (k : Nat) (r : Option Nat) (s : St), k ≤ l2'.length ∧ i = .int .i64 k ∧ K.Loop w w.heap.size wo.heap.size w2.heap.size r A9 l2'.length ys s s wz ∧ Small s ∧ (r = blkOf lc.a ∨ r = none ∨ ∃ q, r = some q ∧ w9.heap.size ≤ q) ∧ Fr3 wo.heap.size (blkOf lc.a) w2.heap.size w9 wz) (fun i _ => l2'.length - (intOf i).toNat)
      case atStart => exact ⟨0, _, S, Nat.zero_le _, rfl, HLL.out, HhS.out, .inl rfl, Fr3.refl _ _ _ _⟩
      case round =>
        obtain ⟨k, r, s, hk, rfl, L, hsm, hnr, hfr⟩ := hrel
        by_cases hlt : k < l2'.length
        · obtain ⟨b, off, vs, rfl, hbl, ⟨A3, m3, c3, rfl, hr3, hm3, hc3⟩, hc⟩ := L.row.elem OpC.size Hhreps9.out hlt (by omega)
          have t0 := hc 0 (by omega)
          have t1 := hc 1 (by omega)
          have t2 := hc 2 (by omega)
          simp at t0 t1 t2
          have hob := Hhsm9.out _ (List.getElem_mem hlt)
          have hm3' : m3 ≤ 200 := by have := hr3.1; simp at this; omega
          generalize l2'[k] = o at *
          have hsm2 := hsm.step o (by omega)
          have hB2 : w.heap.size ≤ wr.heap.size := L.below.size
          have h9 : w9.heap.size ≤ wr.heap.size := hfr.size
          obtain ⟨Zb, cb, Zb', cb', hbox⟩ := L.box
          obtain ⟨⟨a0, a1, a2, a3, a4⟩, f0, f1, f2, f3, f4⟩ := cells5 hbox.1
          have hbx2 := lt_of_block hbox.1
          have hd := L.disk
          have hrB := hr3.below L.below
          have HL := Lib.hid L; clear L
          have Hhbox := Lib.hid hbox; clear hbox
          have Hhd := Lib.hid hd; clear hd
          have HhrB := Lib.hid hrB; clear hrB
          have Hhc := Lib.hid hc; clear hc
          have Hhr3 := Lib.hid hr3; clear hr3
          have Hhsm := Lib.hid hsm; clear hsm
          have Hhsm2 := Lib.hid hsm2; clear hsm2
          have Hhnr := Lib.hid hnr; clear hnr
          have Hhfr := Lib.hid hfr; clear hfr
          go_wp2_with fail
          refine (do_any o A3 m3 c3 (Hhd.out.below ((Below.refl _ _).alloc (Nat.le_refl _) _)) (Hhbox.out.ref.below ((Below.refl _ _).alloc (Nat.le_refl _) _)) HL.out.tok (by simp <;> omega) (HhrB.out.below ((Below.refl _ _).alloc hB2 _)) (by omega)).mono ?_; rintro e w16 ⟨v6, r6, rfl, d6, x6, o6, n6⟩
          rw [beq_self_eq_true]
          have X6 := Lib.hid x6
          obtain ⟨Z6, c6, Z6', c6', rfl, y1, y2⟩ := x6
          have bx6 := blk_only o6 (blk_alloc Hhbox.out.1 _) HL.out.bxg HL.out.bxr
          have hn6 := nxt Hhnr.out n6 (by simp; omega)
          have b8' := (Below.refl w16.heap.size w16).alloc (Nat.le_refl _) (.cells #[.int .i64 ((s.step o).room : Int), str (s.step o).sure, str (s.step o).rest, .slice Z6 2 c6, .slice Z6' 2 c6'] 27)
          have d7 := d6.below b8'
          have x7 := X6.out.below b8'
          have D6 := Lib.hid d6; clear d6
          have O6 := Lib.hid o6; clear o6
          have N6 := Lib.hid n6; clear n6
          clear a0 a1 a2 a3 a4 f0 f1 f2 f3 f4 t0 t1 t2 y1 y2
          generalize s.step o = s' at *
          have Hd7 := Lib.hid d7; clear d7
          have Hx7 := Lib.hid x7; clear x7
          have Hb8' := Lib.hid b8'; clear b8'
          have Hbx6 := Lib.hid bx6; clear bx6
          have Hhn6 := Lib.hid hn6; clear hn6
          go_wp2_with fail
          refine (alike_any Hd7.out Hx7.out Hhsm2.out.1 Hhsm2.out.2.1).mono ?_; rintro e w18 ⟨rfl, b18⟩
          obtain ⟨⟨a0, a1, a2, a3, a4⟩, f0, f1, f2, f3, f4⟩ := cells5 (blk_old b18 (blk_alloc Hbx6.out _))
          obtain ⟨⟨g0, g1, g2, g3, g4⟩, -⟩ := cells5 (blk_old b18 (blk_new w16 _))
          have hne : w16.heap.size ≠ w2.heap.size := by have := lt_of_block Hbx6.out; omega
          have B18 := Lib.hid b18; clear b18
          go_wp2_with fail
          go_roundw
          case rel => exact ⟨k + 1, r6, s', by omega, by go_num, HL.out.turn hB2 ((Below.refl _ _).alloc (Nat.le_refl _) _) O6.out D6.out D6.out.ok X6.out N6.out (bthen Hb8'.out B18.out), Hhsm2.out, Hhn6.out, Hhfr.out.round Hhnr.out ((Below.refl _ _).alloc (Nat.le_refl _) _) O6.out (bthen Hb8'.out B18.out) ((((((Box.refl _ _ _).setCell (by omega) (by omega) _).setCell (by omega) (by omega) _).setCell (by omega) (by omega) _).setCell (by omega) (by omega) _).setCell (by omega) (by omega) _)⟩
          case measure => simp [intOf]; omega
        · have hB2 : w.heap.size ≤ wr.heap.size := L.below.size
          have hbel := L.below
          obtain ⟨e1, e2⟩ := beside_end Hhld.out Hhlc.out Hhlx.out Hhld9.out Hhlx9.out (fun e => Hhgx.out e.symm) Hhrx.out hbxl HhN9.out hfr
          clear L hsm hnr hfr
          have Hhbel := Lib.hid hbel; clear hbel
          have He1 := Lib.hid e1; clear e1
          have He2 := Lib.hid e2; clear e2
          go_wp2_with fail
          refine (nsync _).mono ?_; rintro e wa ⟨rfl, rfl⟩
          go_wp2_with fail
          refine (nclear _).mono ?_; rintro e wa ⟨rfl, rfl⟩
          go_wp2_with fail
          refine (ncrash _).mono ?_; rintro e wa ⟨rfl, rfl⟩
          go_wp2_with fail
          refine (same_any (g := w.heap.size) (g' := w6.heap.size) ⟨_, _, _, _, _, He1.out, rfl⟩ ⟨_, _, _, _, _, He2.out, rfl⟩).mono ?_; rintro e wb ⟨rfl, bb⟩
          have sb := bb.size
          go_wp2_with fail
          refine (nappend _).mono ?_; rintro e wa ⟨rfl, rfl⟩
          go_wp2_with fail
          refine (nwrite _).mono ?_; rintro e wa ⟨rfl, rfl⟩
          go_wp2_with fail
          refine (nlog _).mono ?_; rintro e wa ⟨rfl, rfl⟩
          go_wp2_with fail
          refine (nsure _).mono ?_; rintro e wa ⟨rfl, rfl⟩
          go_wp2_with fail
          refine (nroom _).mono ?_; rintro e wa ⟨rfl, rfl⟩
          go_wp2_with fail
          refine (nslot _).mono ?_; rintro e wa ⟨rfl, rfl⟩
          go_wp2_with fail
          refine (nclone _).mono ?_; rintro e wa ⟨rfl, rfl⟩
          go_wp2_with fail
          refine (nsame _).mono ?_; rintro e wa ⟨rfl, rfl⟩
          go_wp2_with fail
          refine (nsame2 _ _).mono ?_; rintro e wa ⟨rfl, rfl⟩
          go_wp2_with fail
          refine (lives_any _).mono ?_; rintro e wc ⟨rfl, bc⟩
          go_wp2_with fail
          go_ret
          exact ⟨rfl, Hhbel.out.trans ((bthen bb bc).mono hB2)⟩
end Go.Proofs.Ytkcehoejcklmfaa.diskClones
