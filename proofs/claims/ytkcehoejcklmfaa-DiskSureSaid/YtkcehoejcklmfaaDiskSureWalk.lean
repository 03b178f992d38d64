/- DiskSure' walk. (Printed by gen_disklaws.py.) -/
import Derived.Test.YtkcehoejcklmfaaDiskSame2
import Derived.Test.YtkcehoejcklmfaaDiskOpen
namespace Go.Proofs.Ytkcehoejcklmfaa.diskSure
open Go.RowKit D O K

theorem pre_step {s : St} {lw : List UInt8} (h : lw <+: s.sure) (o : D.Op) (h6 : o.kind % 7 ≠ 6) : lw <+: (s.step o).sure := by
  unfold St.step
  split
  · exact h.trans (List.prefix_append _ _)
  split
  · exact h.trans (List.prefix_append _ _)
  split
  · unfold St.write
    split
    · exact h
    · split <;> exact h
  · first | rw [if_neg h6] | skip
    unfold St.app
    split <;> exact h
theorem ba_pre {a b : List UInt8} (h : a <+: b) : (ByteArray.mk b.toArray).extract 0 a.length = ByteArray.mk a.toArray := by
  rw [ba_take, List.prefix_iff_eq_take.1 h |>.symm]

set_option maxRecDepth 100000 in
set_option maxHeartbeats 8000000 in
theorem walk (v : Value) (l : List D.Op) (v' : Value) (l2 : List D.Op) (keep : Int) (w : World) (h1 : IsOps w w.heap.size v l) (h2 : IsOps w w.heap.size v' l2) (hx0 : (Lit.int .i64 keep).wf = true) :
    Calls Try.prog 3 #[v, v', .int .i64 keep] w fun e w' => e = .returned (.bool true) ∧ Below w.heap.size w w' := by
  have HI := Lib.hid h1; clear h1 hx0
  have HI2 := Lib.hid h2; clear h2
  go_enter Try.func3, Try.ntmps3
  go_wp2_with fail
  refine (new_any 4096 w).mono ?_; rintro e w1 ⟨rfl, b1, d1⟩
  have s1 := d1.lt.2.1
  go_wp2_with fail
  refine (rnew_any 4096 w1 w.heap.size none s1 (by intro k hk; cases hk)).mono ?_; rintro e w2 ⟨v2, rfl, ⟨Z, c, Z', c', rfl, x1, x2⟩, b2⟩
  have s2 := b2.size
  have ba : Below w2.heap.size w2 (w2.alloc (.cells #[.int .i64 ((newS 4096).room : Int), str (newS 4096).sure, str (newS 4096).rest, .slice Z 2 c, .slice Z' 2 c'] 27)) := (Below.refl _ _).alloc (Nat.le_refl _) _
  go_wp2_with fail
  refine (cut_any v l _ (HI.out.keep (bthen b1 (bthen b2 ba))) (by have := b1.size; simp; omega)).mono ?_; rintro e w5 ⟨A, n, ca, xs, rfl, own, reps, b5⟩
  have L0 := K.Loop.start b1 d1 b2 x1 x2 (Below.refl _ _) b5 own
  have hreps := reps.imp (OpC.back (bthen b1 (bthen b2 ba)))
  have hln := L0.row.len_of OpC.size hreps (by omega)
  have hsm := cutL_small l
  have hn40 : n ≤ 40 := by rw [← hln]; simp [cutL]; omega
  generalize hl' : cutL l = l' at *
  clear hl' reps own b5 ba x1 x2 b2 d1 b1 s1 s2
  subst hln
  have Hhreps := Lib.hid hreps; clear hreps
  have HL0 := Lib.hid L0; clear L0
  have Hhsm := Lib.hid hsm; clear hsm
  go_wp2_with fail
  go_loopw [21] (fun i wr => ∃ (k : Nat) (r : Option Nat), k ≤ l'.length ∧ i = .int .i64 k ∧ K.Loop w w.heap.size w.heap.size w2.heap.size r A l'.length xs ((newS 4096).steps (l'.take k)) ((newS 4096).steps (l'.take k)) wr) (fun i _ => l'.length - (intOf i).toNat)
  case atStart => exact ⟨0, none, Nat.zero_le _, rfl, HL0.out⟩
  case round =>
    obtain ⟨k, r, hk, rfl, L⟩ := hrel
    by_cases hlt : k < l'.length
    · obtain ⟨b, off, vs, rfl, hbl, ⟨A3, m3, c3, rfl, hr3, hm3, hc3⟩, hc⟩ := L.row.elem OpC.size Hhreps.out hlt (by omega)
      have t0 := hc 0 (by omega)
      have t1 := hc 1 (by omega)
      have t2 := hc 2 (by omega)
      simp at t0 t1 t2
      have hob := Hhsm.out _ (List.getElem_mem hlt)
      have hm3' : m3 ≤ 200 := by have := hr3.1; simp at this; omega
      have hst := steps_snoc (newS 4096) l' k hlt
      generalize l'[k] = o at *
      have hB : w.heap.size ≤ wr.heap.size := L.below.size
      obtain ⟨Zb, cb, Zb', cb', hbox⟩ := L.box
      obtain ⟨⟨a0, a1, a2, a3, a4⟩, f0, f1, f2, f3, f4⟩ := cells5 hbox.1
      have hbxl := lt_of_block hbox.1
      have hd := L.disk
      have hrB := hr3.below L.below
      generalize (newS 4096).steps (l'.take k) = s at *
      have Hhst := Lib.hid hst; clear hst
      have HL := Lib.hid L; clear L
      have Hhbox := Lib.hid hbox; clear hbox
      have Hhd := Lib.hid hd; clear hd
      have HhrB := Lib.hid hrB; clear hrB
      have Hhc := Lib.hid hc; clear hc
      have Hhr3 := Lib.hid hr3; clear hr3
      go_wp2_with fail
      refine (do_any o A3 m3 c3 (Hhd.out.below ((Below.refl _ _).alloc (Nat.le_refl _) _)) (Hhbox.out.ref.below ((Below.refl _ _).alloc (Nat.le_refl _) _)) HL.out.tok (by simp <;> omega) (HhrB.out.below ((Below.refl _ _).alloc hB _)) (by omega)).mono ?_; rintro e w6 ⟨v6, r6, rfl, d6, x6, o6, n6⟩
      have X6 := Lib.hid x6
      obtain ⟨Z6, c6, Z6', c6', rfl, y1, y2⟩ := x6
      have bx6 := blk_only o6 (blk_alloc Hhbox.out.1 _) HL.out.bxg HL.out.bxr
      have D6 := Lib.hid d6; clear d6
      have O6 := Lib.hid o6; clear o6
      have N6 := Lib.hid n6; clear n6
      clear a0 a1 a2 a3 a4 f0 f1 f2 f3 f4 t0 t1 t2 y1 y2
      generalize s.step o = s' at *
      obtain ⟨⟨a0, a1, a2, a3, a4⟩, f0, f1, f2, f3, f4⟩ := cells5 bx6
      have Hbx6 := Lib.hid bx6; clear bx6
      go_wp2_with fail
      go_roundw
      case rel => exact ⟨k + 1, r6, by omega, by go_num, by rw [Hhst.out]; exact HL.out.turn hB ((Below.refl _ _).alloc (Nat.le_refl _) _) O6.out D6.out D6.out.ok X6.out N6.out (Below.refl _ _)⟩
      case measure => simp [intOf]; omega
    · have hk2 : l'.take k = l' := List.take_of_length_le (by omega)
      rw [hk2] at L
      clear hk2
      generalize (newS 4096).steps l' = S at *
      have hB : w.heap.size ≤ wr.heap.size := L.below.size
      have HL := Lib.hid L; clear L
      go_wp2_with fail
      refine (sync_any HL.out.disk).mono ?_; rintro e w6 ⟨rfl, o6, r6, d6, n6⟩
      have L6 := HL.out.turned hB o6 d6 n6
      have s6 : w.heap.size ≤ w6.heap.size := L6.below.size
      have hpre : S.sync.log <+: S.sync.sure := by simp [St.sync, St.log]
      obtain ⟨lw, hlw⟩ : ∃ lw, S.sync.log = lw := ⟨_, rfl⟩
      clear o6 n6
      have HL6 := Lib.hid L6; clear L6
      have HW := Lib.hid hlw
      rw [hlw] at hpre
      clear hlw
      generalize S.sync = s at *
      have Hhpre := Lib.hid hpre; clear hpre
      go_wp2_with fail
      refine (log_any d6).mono ?_; rintro e w7 ⟨A7, n7, c7, rfl, o7, b7⟩
      rw [HW.out] at o7
      have q7 := strq (c := c7) (Rd.of_own o7)
      have L7 := HL6.out.keep s6 b7
      have s7 : w.heap.size ≤ w7.heap.size := L7.below.size
      have HL7 := Lib.hid L7; clear L7
      have Ho7 := Lib.hid o7; clear o7
      have Hb7 := Lib.hid b7; clear b7
      have Hd6 := Lib.hid d6; clear d6
      go_wp2_with fail
      clear q7
      refine (cut_any v' l2 w7 (HI2.out.keep HL7.out.below) s7).mono ?_; rintro e w8 ⟨A8, n8, c8, ys, rfl, own8, reps8, b8⟩
      have L8 := HL7.out.newRow s7 b8 own8
      have hreps8 := reps8.imp (OpC.back HL7.out.below)
      have hln8 := L8.row.len_of OpC.size hreps8 (by omega)
      have hsm8 := cutL_small l2
      have hn8 : n8 ≤ 40 := by rw [← hln8]; simp [cutL]; omega
      generalize hl2 : cutL l2 = l2' at *
      clear hl2 reps8 own8 b8
      subst hln8
      have Hhreps8 := Lib.hid hreps8; clear hreps8
      have HL8 := Lib.hid L8; clear L8
      have Hhsm8 := Lib.hid hsm8; clear hsm8
      obtain ⟨wo, hwo⟩ : ∃ wo : World, wo = wr := ⟨_, rfl⟩
      go_wp2_with fail
      go_loopw [41] (fun i wr => ∃ (k : Nat) (r : Option Nat) (s t : St), k ≤ l2'.length ∧ i = .int .i64 k ∧ K.Loop w w.heap.size w.heap.size w2.heap.size r A8 l2'.length ys s t wr ∧ lw <+: s.sure) (fun i _ => l2'.length - (intOf i).toNat)
      case atStart => exact ⟨0, r6, s, S, Nat.zero_le _, rfl, HL8.out, Hhpre.out⟩
      case round =>
        obtain ⟨k, r, s, t, hk, rfl, L, hp⟩ := hrel
        by_cases hlt : k < l2'.length
        · obtain ⟨b, off, vs, rfl, hbl, ⟨A3, m3, c3, rfl, hr3, hm3, hc3⟩, hc⟩ := L.row.elem OpC.size Hhreps8.out hlt (by omega)
          have t0 := hc 0 (by omega)
          have t1 := hc 1 (by omega)
          have t2 := hc 2 (by omega)
          simp at t0 t1 t2
          have hob := Hhsm8.out _ (List.getElem_mem hlt)
          have hm3' : m3 ≤ 200 := by have := hr3.1; simp at this; omega
          generalize l2'[k] = o at *
          have hB : w.heap.size ≤ wr.heap.size := L.below.size
          obtain ⟨Zb, cb, Zb', cb', hbox⟩ := L.box
          obtain ⟨⟨a0, a1, a2, a3, a4⟩, f0, f1, f2, f3, f4⟩ := cells5 hbox.1
          have hbxl := lt_of_block hbox.1
          have hd := L.disk
          have hrB := hr3.below L.below
          by_cases h6 : o.kind % 7 = 6
          · have h6' : ((o.kind : Int) % 7 != 6) = false := by simp; omega
            have HL := Lib.hid L; clear L
            have Hhbox := Lib.hid hbox; clear hbox
            have Hhd := Lib.hid hd; clear hd
            have HhrB := Lib.hid hrB; clear hrB
            have Hhc := Lib.hid hc; clear hc
            have Hhr3 := Lib.hid hr3; clear hr3
            have Hhp := Lib.hid hp; clear hp
            have Hh6 := Lib.hid h6; clear h6
            go_wp2_with fail
            go_roundw
            case rel => exact ⟨k + 1, r, s, t, by omega, by go_num, HL.out.keep hB ((Below.refl _ _).alloc (Nat.le_refl _) _), Hhp.out⟩
            case measure => simp [intOf]; omega
          · have h6' : ((o.kind : Int) % 7 != 6) = true := by simp; omega
            have hp2 := pre_step hp o h6
            have HL := Lib.hid L; clear L
            have Hhbox := Lib.hid hbox; clear hbox
            have Hhd := Lib.hid hd; clear hd
            have HhrB := Lib.hid hrB; clear hrB
            have Hhc := Lib.hid hc; clear hc
            have Hhr3 := Lib.hid hr3; clear hr3
            have Hhp := Lib.hid hp; clear hp
            have Hh6 := Lib.hid h6; clear h6
            have Hhp2 := Lib.hid hp2; clear hp2
            go_wp2_with fail
            refine (do_any o A3 m3 c3 (Hhd.out.below ((Below.refl _ _).alloc (Nat.le_refl _) _)) (Hhbox.out.ref.below ((Below.refl _ _).alloc (Nat.le_refl _) _)) HL.out.tok (by simp <;> omega) (HhrB.out.below ((Below.refl _ _).alloc hB _)) (by omega)).mono ?_; rintro e w16 ⟨v6, r6, rfl, d6, x6, o6, n6⟩
            have X6 := Lib.hid x6
            obtain ⟨Z6, c6, Z6', c6', rfl, y1, y2⟩ := x6
            have bx6 := blk_only o6 (blk_alloc Hhbox.out.1 _) HL.out.bxg HL.out.bxr
            have tok2 := step_ok HL.out.tok o
            have D6 := Lib.hid d6; clear d6
            have O6 := Lib.hid o6; clear o6
            have N6 := Lib.hid n6; clear n6
            clear a0 a1 a2 a3 a4 f0 f1 f2 f3 f4 t0 t1 t2 y1 y2
            generalize s.step o = s' at *
            generalize (s.err o == t.err o) = ok at *
            generalize t.step o = t' at *
            obtain ⟨⟨a0, a1, a2, a3, a4⟩, f0, f1, f2, f3, f4⟩ := cells5 bx6
            have Hbx6 := Lib.hid bx6; clear bx6
            have Htok2 := Lib.hid tok2; clear tok2
            go_wp2_with fail
            go_roundw
            case rel => exact ⟨k + 1, r6, s', t', by omega, by go_num, HL.out.turn hB ((Below.refl _ _).alloc (Nat.le_refl _) _) O6.out D6.out Htok2.out X6.out N6.out (Below.refl _ _), Hhp2.out⟩
            case measure => simp [intOf]; omega
        · have hB : w.heap.size ≤ wr.heap.size := L.below.size
          have hd := L.disk
          have hbel := L.below
          have hp1 : lw <+: (s.crash keep).log := by
            show lw <+: (s.sure ++ s.rest.take keep.toNat) ++ []
            rw [List.append_nil]
            exact hp.trans (List.prefix_append _ _)
          have hp2 : (s.crash keep).log <+: s.log := by
            show (s.sure ++ s.rest.take keep.toNat) ++ [] <+: s.sure ++ s.rest
            rw [List.append_nil]
            exact (List.prefix_append_right_inj _).2 (List.take_prefix _ _)
          have hp3 : (s.crash keep).sure.length = (s.crash keep).log.length := by simp [St.crash, St.log]
          have hlogl : s.log.length ≤ 1048576 := by have := hd.ok.1; have := hd.ok.2; omega
          clear L hp
          have Hhbel := Lib.hid hbel; clear hbel
          have Hhp1 := Lib.hid hp1; clear hp1
          have Hhp2 := Lib.hid hp2; clear hp2
          have Hhp3 := Lib.hid hp3; clear hp3
          go_wp2_with fail
          refine (log_any hd).mono ?_; rintro e w10 ⟨A10, n10, c10, rfl, o10, b10⟩
          have q10 := strq (c := c10) (Rd.of_own o10)
          have d10 := hd.below b10
          have B10 := Hhbel.out.trans (b10.mono hB)
          have s10 := B10.size
          clear hd
          have Ho10 := Lib.hid o10; clear o10
          have Hb10 := Lib.hid b10; clear b10
          have HB10 := Lib.hid B10; clear B10
          go_wp2_with fail
          clear q10
          refine (crash_any d10 keep).mono ?_; rintro e w11 ⟨rfl, t11⟩
          obtain ⟨r11, d11, b11, s11⟩ := t11.next d10 s10
          have B11 := HB10.out.trans b11
          clear t11 d10 b11
          have HB11 := Lib.hid B11; clear B11
          go_wp2_with fail
          refine (log_any d11).mono ?_; rintro e w12 ⟨A12, n12, c12, rfl, o12, b12⟩
          have q12 := strq (c := c12) (Rd.of_own o12)
          have d12 := d11.below b12
          have B12 := HB11.out.trans (b12.mono s11)
          have s12 := B12.size
          have e1 := ba_pre Hhp1.out
          have e2 := ba_pre Hhp2.out
          have l1 := Hhp1.out.length_le
          have l2 := Hhp2.out.length_le
          generalize hcr : s.crash keep = s' at *
          generalize s'.log = ln at *
          generalize s.log = la at *
          clear hcr d11
          have Ho12 := Lib.hid o12; clear o12
          have Hb12 := Lib.hid b12; clear b12
          have HB12 := Lib.hid B12; clear B12
          have Hd12 := Lib.hid d12; clear d12
          go_wp2_with fail
          refine (sure_any Hd12.out).mono ?_; rintro e w13 ⟨rfl, b13⟩
          rw [Hhp3.out]
          clear q12
          go_wp2_with fail
          refine (lives_any _).mono ?_; rintro e w14 ⟨rfl, b14⟩
          go_wp2_with fail
          go_ret
          exact ⟨rfl, HB12.out.trans ((bthen b13 b14).mono s12)⟩
end Go.Proofs.Ytkcehoejcklmfaa.diskSure
