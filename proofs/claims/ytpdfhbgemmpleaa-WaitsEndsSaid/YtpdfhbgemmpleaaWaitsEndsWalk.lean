/- WaitsEnds' walk: for every row of waits it returns true. -/
import Derived.Test.YtpdfhbgemmpleaaWtEnds
namespace Go.Proofs.Ytpdfhbgemmpleaa.waitsEnds
open Go.RowKit T

/-- Where the last round among some rows lies. -/
def AtP (L : Gr) (m : Nat) (z : Int) : Prop := (z = -1 ∧ ∀ p ∈ L.take m, ∀ y, ¬ roundP L p.1 y) ∨ ∃ a : Nat, z = (a : Int) ∧ a < m ∧ ∃ h : a < L.length, ∃ y, roundP L (L[a]).1 y
set_option maxHeartbeats 4000000 in
set_option maxRecDepth 100000 in
theorem walk (v0 : Value) (whos : List Int) (v1 : Value) (fors : List (List Int)) (w : World) (h0 : IsNs w v0 whos) (h1 : IsFs w v1 fors) :
    Calls Try.prog 5 #[v0, v1] w fun e w' => e = .returned (.bool true) ∧ Below w.heap.size w w' := by
  obtain ⟨A, n, c, rfl, hn, hnw, _⟩ := h0
  obtain ⟨A', n', c', rfl, hf, hfw, _⟩ := h1
  have HN := Lib.hid hn
  have HF := Lib.hid hf
  have HNW := Lib.hid hnw
  have HFW := Lib.hid hfw
  clear hn hf hnw hfw
  go_enter Try.func5, Try.ntmps5
  go_wp2_with fail
  refine (row_any _ _ _ _ _ _ whos fors _ HN.out HF.out HNW.out HFW.out).mono ?_; rintro e w1 ⟨A1, A2, A3, c1, c2, c3, N, L0, rfl, r3, ro⟩
  have HG0 := Lib.hid r3.rows.1
  have HB0 := Lib.hid r3.b
  have hlen := r3.len
  have HO0 := Lib.hid ro.ok
  have hN20 : N ≤ 20 := by have := ro.n; omega
  clear r3 hlen ro HN HF HNW HFW
  go_wp2_with fail
  go_loopw [5, 9, 10, 11, 13, 14, 15, 16] (fun lv kv _ _ _ _ _ _ wr => ∃ (B : Option Addr) (q d k : Nat) (L : Gr), lv = .slice B q d ∧ kv = .int .i64 (k : Int) ∧ q + k ≤ N ∧ Hid (GRow wr B q d L) ∧ Hid (GOk L) ∧ Hid (Below w.heap.size w wr)) (fun _ kv _ _ _ _ _ _ _ => 30 - (intOf kv).toNat)
  case atStart => exact ⟨A1, N, c1, 0, L0, rfl, rfl, by omega, HG0, HO0, HB0⟩
  case round =>
    obtain ⟨B, q, d, k, L, rfl, rfl, hqk, HG, HO, HB⟩ := hrel
    generalize wr = wo at *
    clear HG0 HO0 HB0
    have hlen := HG.out.len
    have HL := Lib.hid hlen
    have hkN : (k : Int) ≤ (N : Int) := by omega
    clear hlen
    go_wp2_with fail
    go_loopw [10, 11, 33] (fun av _ iv wz => ∃ (m : Nat) (z : Int), m ≤ q ∧ iv = .int .i64 (m : Int) ∧ av = .int .i64 z ∧ Hid (AtP L m z) ∧ Hid (Below wo.heap.size wo wz)) (fun _ _ iv _ => q - (intOf iv).toNat)
    case atStart => exact ⟨0, -1, by omega, rfl, rfl, Lib.hid (.inl ⟨rfl, by simp⟩), Lib.hid (Below.refl _ _)⟩
    case round =>
      obtain ⟨m, z, hm, rfl, rfl, HA, HZ⟩ := hrel
      generalize wr = wz at *
      by_cases hmq : m < q
      · have hmqi : (m : Int) < (q : Int) := by omega
        have hml : m < L.length := by rw [HL.out]; exact hmq
        obtain ⟨b1, off, A4, n4, c4, rfl, hbl, hr4, hc⟩ := HG.out.at hml
        obtain ⟨q0, q1⟩ := hc wz HZ.out
        have HWF := Lib.hid (HO.out.w _ (List.getElem_mem hml))
        have HTK : Hid (L.take (m + 1) = L.take m ++ [L[m]]) := Lib.hid (List.take_succ_eq_append_getElem hml)
        have HME : Hid (∃ h : m < L.length, L[m] = L[m]) := Lib.hid ⟨hml, rfl⟩
        have HNX : Hid (∀ y, roundP L (L[m]).1 y → AtP L (m + 1) (m : Int)) := Lib.hid (fun y hy => .inr ⟨m, rfl, by omega, hml, y, hy⟩)
        clear hc hr4 HME
        generalize L[m] = p at *
        obtain ⟨p1, p2⟩ := p
        dsimp only at *
        have hX := heap_alloc_new wz (.cells #[.int .i64 p1, .slice A4 n4 c4] 29)
        have x0 : (wz.alloc (.cells #[.int .i64 p1, .slice A4 n4 c4] 29)).cell? ⟨wz.heap.size, 0, none⟩ = some (.int .i64 p1) := by rw [Lib.cell_of_heap hX]; rfl
        have HB2 := Lib.hid (bthen HZ.out (bsz _ (.cells #[.int .i64 p1, .slice A4 n4 c4] 29)))
        clear hX
        go_wp2_with fail
        refine (round_any _ _ _ L p1 _ (HG.out.next HB2.out) HO.out HWF.out).mono ?_; rintro e w5 ⟨A5, n5, c5, r, rfl, o5, r5, b5⟩
        have hrn : r.length = n5 := by have := o5.1; simpa using this
        have HB5 := Lib.hid (bthen HB2.out b5)
        by_cases h5 : 0 < n5
        · have d1 : decide ((n5 : Int) > 0) = true := by simp; omega
          have HAT : Hid (AtP L (m + 1) (m : Int)) := Lib.hid (HNX.out _ ((r5.mem _).1 (List.getElem_mem (show 0 < r.length by omega))))
          clear r5 o5 b5 hrn
          go_wp2_with fail
          go_roundw
          case rel => exact ⟨m + 1, (m : Int), by omega, by go_num, rfl, HAT, HB5⟩
          case measure => simp [intOf]; omega
        · have d1 : decide ((n5 : Int) > 0) = false := by simp; omega
          have hr0 : r = [] := List.eq_nil_of_length_eq_zero (by omega)
          have HAT : Hid (AtP L (m + 1) z) := Lib.hid (by
            rcases HA.out with ⟨e, h⟩ | ⟨a, e, ha, hal, h⟩
            · refine .inl ⟨e, fun p hp y hy => ?_⟩
              rw [HTK.out] at hp
              rcases List.mem_append.1 hp with hp | hp
              · exact h p hp y hy
              · rw [List.mem_singleton] at hp
                subst hp
                have := (r5.mem y).2 hy
                rw [hr0] at this
                simp at this
            · exact .inr ⟨a, e, by omega, hal, h⟩)
          clear r5 o5 b5 hrn hr0
          go_wp2_with fail
          go_roundw
          case rel => exact ⟨m + 1, z, by omega, by go_num, rfl, HAT, HB5⟩
          case measure => simp [intOf]; omega
      · obtain rfl : m = q := by omega
        have hat := HA.out
        clear HA
        rcases hat with ⟨rfl, hno⟩ | ⟨a, rfl, ham, hal, y, hy⟩
        · rw [List.take_of_length_le (by rw [HL.out]; exact Nat.le_refl _)] at hno
          have HNS := Lib.hid (no_stuck hno)
          clear hno
          go_wp2_with fail
          refine (stuck_any _ _ _ L _ (HG.out.next HZ.out) HO.out).mono ?_; rintro e w5 ⟨A5, n5, c5, r, rfl, o5, r5, b5⟩
          obtain rfl : n5 = 0 := by
            have h1 := o5.1
            have h2 : r = [] := List.eq_nil_iff_forall_not_mem.2 fun x hx => HNS.out x ((r5.mem x).1 hx)
            subst h2
            simpa using h1.symm
          have HB5 := Lib.hid (bthen HZ.out b5)
          clear o5 r5 b5
          go_wp2_with fail
          refine (lives_any _).mono ?_; rintro e w7 ⟨rfl, b7⟩
          go_wp2_with fail
          go_ret
          exact ⟨rfl, bthen (bthen HB.out HB5.out) b7⟩
        · obtain ⟨b1, off, A4, n4, c4, rfl, hbl, hr4, hc⟩ := HG.out.at hal
          obtain ⟨q0, q1⟩ := hc wz HZ.out
          have HWF := Lib.hid (HO.out.w _ (List.getElem_mem hal))
          have HY := Lib.hid (Exists.intro y hy)
          clear hc hr4 hy
          generalize L[a] = p at *
          obtain ⟨p1, p2⟩ := p
          dsimp only at *
          have d0 : decide ((a : Int) < 0) = false := decide_eq_false (by omega)
          have hai : (a : Int) < (m : Int) := by omega
          go_wp2_with fail
          refine (round_any _ _ _ L p1 _ (HG.out.next HZ.out) HO.out HWF.out).mono ?_; rintro e w5 ⟨A5, n5, c5, r, rfl, o5, r5, b5⟩
          have hrn : r.length = n5 := by have := o5.1; simpa using this
          have HRN := Lib.hid hrn
          have HR := Lib.hid r5
          have HN5 := Lib.hid (NRow.own o5)
          have HB5 := Lib.hid (bthen HZ.out b5)
          have hn5 : 0 < n5 := by
            obtain ⟨y, hy⟩ := HY.out
            rw [← hrn]
            exact List.length_pos_iff.2 (List.ne_nil_of_mem ((r5.mem y).2 hy))
          have hn5b := round_len HO.out r5
          clear o5 r5 b5 q0 q1 HZ
          go_wp2_with fail
          refine (victim_any _ _ _ L p1 _ (HG.out.next HB5.out) HO.out HWF.out).mono ?_; rintro e w6 ⟨⟨l6, v, r6, hv, rfl⟩, b6⟩
          obtain rfl : l6 = r := r6.uniq HR.out
          have hemp : (!l6.isEmpty) = true := by
            cases l6 with
            | nil => simp at hrn; omega
            | cons _ _ => rfl
          rw [hemp]
          have HB6 := Lib.hid (bthen HB5.out b6)
          have HN6 := Lib.hid (HN5.out.next b6)
          have HV := Lib.hid hv
          have HRV : Hid (roundP L p1 v) := Lib.hid (by rw [hv]; exact (HR.out.mem _).1 (last_mem (List.length_pos_iff.1 (by omega))))
          obtain ⟨b7, off7, rfl, hbl7, hc7⟩ := HN6.out.at (j := 0) (by omega)
          have q7 : w6.cell? ⟨b7, off7, none⟩ = some (.int .i64 (l6[0]'(by omega))) := hc7 w6 (Below.refl _ _)
          have hne : 1 < n5 → (v == l6[0]'(by omega)) = false := fun h => by
            have := last_ne HR.out.up (by omega)
            rw [← hv] at this
            simpa using this
          have HNE := Lib.hid hne
          clear hc7 r6 b6 hv hemp hne
          generalize l6[0]'(by omega) = y0 at *
          have hlt := filter_less HRV.out
          have hlm : L.length = m := HL.out
          by_cases h1 : 1 < n5
          · have d1 : decide ((n5 : Int) > 1) = true := by simp; omega
            have d2 := HNE.out h1
            clear hlm hlt hrn
            go_wp2_with fail
            refine (without_any _ _ _ L v _ (HG.out.next HB6.out) (by omega)).mono ?_; rintro e w8 ⟨A8, n8, c8, rfl, g8, b8⟩
            have hl8 := g8.len
            have hm8 : n8 < m := by have := filter_less HRV.out; have := HL.out; omega
            have HG8 := Lib.hid g8
            have HB8 := Lib.hid (bthen (bthen HB.out HB6.out) b8)
            clear g8 b8 hl8
            go_wp2_with fail
            go_roundw
            case rel => exact ⟨A8, n8, c8, k + 1, _, rfl, by go_num, by omega, HG8, Lib.hid (HO.out.filter _), HB8⟩
            case measure => simp [intOf]; omega
          · have d1 : decide ((n5 : Int) > 1) = false := by simp; omega
            clear hlm hlt hrn
            go_wp2_with fail
            refine (without_any _ _ _ L v _ (HG.out.next HB6.out) (by omega)).mono ?_; rintro e w8 ⟨A8, n8, c8, rfl, g8, b8⟩
            have hl8 := g8.len
            have hm8 : n8 < m := by have := filter_less HRV.out; have := HL.out; omega
            have HG8 := Lib.hid g8
            have HB8 := Lib.hid (bthen (bthen HB.out HB6.out) b8)
            clear g8 b8 hl8
            go_wp2_with fail
            go_roundw
            case rel => exact ⟨A8, n8, c8, k + 1, _, rfl, by go_num, by omega, HG8, Lib.hid (HO.out.filter _), HB8⟩
            case measure => simp [intOf]; omega
end Go.Proofs.Ytpdfhbgemmpleaa.waitsEnds
