/- WaitsChains' walk: for every two numbers it returns true. -/
import Derived.Test.YtpdfhbgemmpleaaWtChain
import Derived.Test.YtpdfhbgemmpleaaWtKeep
namespace Go.Proofs.Ytpdfhbgemmpleaa.waitsChains
open Go.RowKit T

theorem w64 {x : Int} (h : -9223372036854775808 ≤ x ∧ x ≤ 9223372036854775807) : wrap64 x = x := by unfold wrap64; omega
set_option maxHeartbeats 4000000 in
set_option maxRecDepth 100000 in
theorem walk (n from_ : Int) (w : World) (h0 : (Lit.int .u64 n).wf = true) (h1 : (Lit.int .u64 from_).wf = true) :
    Calls Try.prog 6 #[.int .u64 n, .int .u64 from_] w fun e w' => e = .returned (.bool true) ∧ Below w.heap.size w w' := by
  have hn0 : 0 ≤ n := by simp [Lit.wf, IntKind.min, IntKind.max, IntKind.signed, IntKind.bits] at h0; omega
  have hf0 : 0 ≤ from_ := by simp [Lit.wf, IntKind.min, IntKind.max, IntKind.signed, IntKind.bits] at h1; omega
  have hk : ∃ m : Nat, wrap64 (wrap64 (n.tmod 30) + 2) = (m : Int) + 1 ∧ 1 ≤ m ∧ m ≤ 30 := by
    rw [Int.tmod_eq_emod_of_nonneg hn0, w64 (x := n % 30) (by omega), w64 (by omega)]
    exact ⟨(n % 30 + 1).toNat, by omega, by omega, by omega⟩
  have hff : ∃ f : Int, wrap64 (from_.tmod 1000) = f ∧ 0 ≤ f ∧ f ≤ 999 := by
    rw [Int.tmod_eq_emod_of_nonneg hf0, w64 (by omega)]
    exact ⟨_, rfl, by omega, by omega⟩
  obtain ⟨m, hkm, hm1, hm30⟩ := hk
  obtain ⟨f, hff, hf0', hf9⟩ := hff
  clear h0 h1 hn0 hf0
  go_enter Try.func6, Try.ntmps6
  go_wp2_with fail
  simp only [hkm, hff]
  clear hkm hff
  go_loopw [7, 8, 22] (fun lv _ iv wr => ∃ (i : Nat) (B : Option Addr) (d : Nat), i ≤ m ∧ iv = .int .i64 (i : Int) ∧ lv = .slice B i d ∧ Hid (∃ xs, wr.ownsRow w.heap.size 29 2 (.slice B i d) i xs ∧ Reps (WtO w wr) (chainP f i) xs) ∧ Hid (Below w.heap.size w wr)) (fun _ _ iv _ => m - (intOf iv).toNat)
  case atStart => exact ⟨0, none, 0, by omega, rfl, rfl, Lib.hid ⟨[], World.ownsRow_nil _ _ _ _, rfl⟩, Lib.hid (Below.refl _ _)⟩
  case round =>
    obtain ⟨i, B, d, hi, rfl, rfl, HO, HB⟩ := hrel
    by_cases him : i < m
    · have himi : (i : Int) < (m : Int) := by omega
      have s1 : wrap64 (f + (i : Int)) = f + i := w64 (by omega)
      have s2 : wrap64 (f + (i : Int) + 1) = f + i + 1 := w64 (by omega)
      obtain ⟨xs, ox, rx⟩ := HO.out
      have hsz := HB.out.size
      generalize hv : f + (i : Int) + 1 = v2 at *
      generalize hv1 : f + (i : Int) = v1 at *
      have BX := bthen (bsz wr (.cells #[.int .i64 v2] 3)) (bsz _ (.cells #[.int .i64 v1, .slice (some ⟨wr.heap.size, 0, none⟩) 1 1] 29))
      have OE := own_lit wr (base := w.heap.size) (e := 3) [.int .i64 v2] hsz (by simp [maxLen])
      have HE := Lib.hid (WtO.next (w0 := w) (bsz (wr.alloc (.cells #[.int .i64 v2] 3)) (.cells #[.int .i64 v1, .slice (some ⟨wr.heap.size, 0, none⟩) 1 1] 29)) (v1, [v2]) _ ⟨_, _, _, rfl, .inr OE⟩)
      have OX := Lib.hid (own_below ox BX)
      have RX := Lib.hid (rx.imp (WtO.next BX))
      have HBX := Lib.hid (bthen HB.out BX)
      clear ox rx HO BX OE
      have OX2 := Lib.hid OX.out
      have hszb := HBX.out.size
      have hi31 : i ≤ 30 := by omega
      go_wp2_with (at_builtin; refine wpList_app rfl (.tmp 25) (.tmp 35) wtE rfl w.heap.size xs rfl OX.out rfl [.int .i64 v1, .slice (some ⟨wr.heap.size, 0, none⟩) 1 1] (Rd.made _ [.int .i64 v1, .slice (some ⟨wr.heap.size, 0, none⟩) 1 1] rfl (by simp)) (by simp [Value.oneCell']) (by unfold maxLen; omega) (by omega) (by simp; omega) ?_; intro A5 c5 w5 o5 g5 _; have HO5 := Lib.hid o5; have HR5 := Lib.hid (RX.out.imp (WtO.grown OX.out g5)); have HE5 := Lib.hid (WtO.grown OX.out g5 _ _ HE.out); have HB5 := Lib.hid (below_app HBX.out OX.out g5 (by simp; omega)); clear o5 g5)
      go_roundw
      case rel => exact ⟨i + 1, A5, c5, by omega, by go_num, rfl, Lib.hid ⟨_, HO5.out, by subst hv hv1; exact HR5.out.append ⟨_, [], rfl, HE5.out, rfl⟩⟩, HB5⟩
      case measure => simp [intOf]; omega
    · obtain rfl : i = m := by omega
      generalize wr = w1 at *
      have hGL : GRow w1 B i d (chainP f i) := by
        obtain ⟨xs, ox, rx⟩ := HO.out
        exact ⟨⟨xs, Rd.of_own ox, rx.imp (WtO.to HB.out)⟩, own_capN ox⟩
      have HGL := Lib.hid hGL
      have HOK := Lib.hid (chain_ok hf0' (by omega) hm30 : GOk (chainP f i))
      clear hGL
      have e2 : wrap64 ((i : Int) + 1 - 1) = (i : Int) := w64 (x := (i : Int) + 1 - 1) (by omega) |>.trans (by omega)
      go_wp2_with fail
      clear e2
      go_loopw [9, 40] (fun _ iv wz => ∃ t : Nat, t ≤ i ∧ iv = .int .i64 (t : Int) ∧ Hid (Below w1.heap.size w1 wz)) (fun _ iv _ => i - (intOf iv).toNat)
      case atStart => exact ⟨0, by omega, rfl, Lib.hid (Below.refl _ _)⟩
      case round =>
        obtain ⟨t, ht, rfl, HZ⟩ := hrel
        generalize wr = wz at *
        by_cases hti : t < i
        · have htii : (t : Int) < (i : Int) := by omega
          have s1 : wrap64 (f + (t : Int)) = f + t := w64 (by omega)
          have s3 : wrap64 (f + ((i : Int) + 1)) = f + i + 1 := (w64 (by omega)).trans (by omega)
          have s4 : wrap64 (f + (i : Int) + 1 - 1) = f + i := (w64 (by omega)).trans (by omega)
          go_wp2_with fail
          refine (round_any _ _ _ (chainP f i) (f + t) _ (HGL.out.next HZ.out) HOK.out (by unfold wf; omega)).mono ?_; rintro e w5 ⟨A5, n5, c5, r5, rfl, o5, k5, b5⟩
          obtain rfl : n5 = 0 := by
            have h1 := o5.1
            have h2 : r5 = [] := List.eq_nil_iff_forall_not_mem.2 fun x hx => chain_round ((k5.mem x).1 hx)
            subst h2
            simpa using h1.symm
          have HB5 := Lib.hid (bthen HZ.out b5)
          clear o5 k5 b5
          go_wp2_with fail
          refine (runs_any _ _ _ (chainP f i) (f + t) _ (HGL.out.next HB5.out) HOK.out (by unfold wf; omega)).mono ?_; rintro e w6 ⟨A6, n6, c6, r6, rfl, o6, k6, b6⟩
          obtain rfl := chain_runsRow hti k6
          obtain rfl : n6 = 1 := by have h1 := o6.1; simpa using h1.symm
          have HB6 := Lib.hid (bthen HB5.out b6)
          have HN6 := Lib.hid (NRow.own o6)
          clear o6 k6 b6
          go_wp2_with fail
          rw [show f + ((i : Int) + 1) - 1 = f + (i : Int) from by omega]
          generalize hv : f + (i : Int) = v at *
          refine (same_any _ _ _ _ _ _ [v] [v] _ (HN6.out.next (bsz _ _)) (nrow_made _ [v] (n := 1) rfl rfl) (by omega) (by omega)).mono ?_; rintro e w8 ⟨rfl, b8⟩
          have HB8 := Lib.hid (bthen (bthen HB6.out (bsz _ _)) b8)
          clear b8
          rw [decide_eq_true rfl]
          go_wp2_with fail
          go_roundw
          case rel => exact ⟨t + 1, by omega, by go_num, HB8⟩
          case measure => simp [intOf]; omega
        · obtain rfl : t = i := by omega
          have hHO : ∃ xs, wz.ownsRow w.heap.size 29 2 (.slice B t d) t xs ∧ Reps (WtO w wz) (chainP f t) xs := by
            obtain ⟨xs, ox, rx⟩ := HO.out
            exact ⟨xs, own_below ox HZ.out, rx.imp (WtO.next HZ.out)⟩
          obtain ⟨xs, ox, rx⟩ := hHO
          have HBZ := Lib.hid (bthen HB.out HZ.out)
          have hsz := HBZ.out.size
          clear HO HGL HB HZ
          have BX := bthen (bsz wz (.cells #[.int .i64 f] 3)) (bsz _ (.cells #[.int .i64 (f + ((t : Int) + 1) - 1), .slice (some ⟨wz.heap.size, 0, none⟩) 1 1] 29))
          have OE := own_lit wz (base := w.heap.size) (e := 3) [.int .i64 f] hsz (by simp [maxLen])
          have HE := Lib.hid (WtO.next (w0 := w) (bsz (wz.alloc (.cells #[.int .i64 f] 3)) (.cells #[.int .i64 (f + ((t : Int) + 1) - 1), .slice (some ⟨wz.heap.size, 0, none⟩) 1 1] 29)) (f + ((t : Int) + 1) - 1, [f]) _ ⟨_, _, _, rfl, .inr OE⟩)
          have OX := Lib.hid (own_below ox BX)
          have RX := Lib.hid (rx.imp (WtO.next BX))
          have HBX := Lib.hid (bthen HBZ.out BX)
          clear ox rx BX OE
          go_wp2_with (at_builtin; refine wpList_keeps rfl (.tmp 65) (.tmp 73) wtE rfl w.heap.size xs rfl OX.out rfl [.int .i64 (f + ((t : Int) + 1) - 1), .slice (some ⟨wz.heap.size, 0, none⟩) 1 1] (Rd.made _ [.int .i64 (f + ((t : Int) + 1) - 1), .slice (some ⟨wz.heap.size, 0, none⟩) 1 1] rfl (by simp)) (by simp [Value.oneCell']) (by omega) (by unfold maxLen; omega) (by omega) (by simp; omega) ?_; intro A5 c5 w5 o5 g5 k5; have HO5 := Lib.hid o5; have HR5 := Lib.hid (RX.out.imp (WtO.grown OX.out g5)); have HE5 := Lib.hid (WtO.grown OX.out g5 _ _ HE.out); have HB5 := Lib.hid (below_app HBX.out OX.out g5 (by simp; omega)); have HK5 := Lib.hid k5; clear o5 g5 k5)
          have hev : f + ((t : Int) + 1) - 1 = f + t := by omega
          have hRG : GRow w5 A5 (t + 1) c5 (ringP f t) := by
            refine ⟨⟨_, Rd.of_own HO5.out, Reps.imp (WtO.to HB5.out) ?_⟩, own_capN HO5.out⟩
            unfold ringP
            rw [← hev]
            exact HR5.out.append ⟨_, [], rfl, HE5.out, rfl⟩
          have hCH : GRow w5 B t d (chainP f t) := ⟨⟨xs, HK5.out, HR5.out.imp (WtO.to HB5.out)⟩, own_capN OX.out⟩
          have HRG := Lib.hid hRG
          have HCH := Lib.hid hCH
          have HRO := Lib.hid (ring_ok hf0' (by omega) hm30 : GOk (ringP f t))
          have HWF : Hid (wf f) := Lib.hid (by unfold wf; omega)
          clear hRG hCH HO5 HR5 HE5 HK5 HE OX RX HBX hev
          refine (victim_any _ _ _ (ringP f t) f _ HRG.out HRO.out HWF.out).mono ?_; rintro e w6 ⟨⟨l6, v, k6, rfl, rfl⟩, b6⟩
          obtain rfl := ring_round k6
          have hemp : (!(runI f (t + 1)).isEmpty) = true := by
            have := runI_len f (t + 1)
            cases h : runI f (t + 1) with
            | nil => rw [h] at this; simp at this
            | cons _ _ => rfl
          rw [hemp, runI_last]
          have HB6 := Lib.hid (bthen HB5.out b6)
          have HRG6 := Lib.hid (HRG.out.next b6)
          have HCH6 := Lib.hid (HCH.out.next b6)
          clear hemp k6 b6 HB5 HRG HCH
          go_wp2_with fail
          refine (stuck_any _ _ _ (chainP f t) _ HCH6.out HOK.out).mono ?_; rintro e w7 ⟨A7, n7, c7, r7, rfl, o7, k7, b7⟩
          obtain rfl : n7 = 0 := by
            have h1 := o7.1
            have h2 : r7 = [] := List.eq_nil_iff_forall_not_mem.2 fun x hx => chain_stuck ((k7.mem x).1 hx)
            subst h2
            simpa using h1.symm
          have HB7 := Lib.hid (bthen HB6.out b7)
          have HRG7 := Lib.hid (HRG6.out.next b7)
          clear o7 k7 b7 HB6 HRG6 HCH6
          go_wp2_with fail
          refine (round_any _ _ _ (ringP f t) f _ HRG7.out HRO.out HWF.out).mono ?_; rintro e w8 ⟨A8, n8, c8, r8, rfl, o8, k8, b8⟩
          obtain rfl := ring_round k8
          obtain rfl : n8 = t + 1 := by have h1 := o8.1; rw [iv_length, runI_len] at h1; omega
          have HB8 := Lib.hid (bthen HB7.out b8)
          have HRG8 := Lib.hid (HRG7.out.next b8)
          clear o8 k8 b8 HB7 HRG7
          have q1 : (((t + 1 : Nat) : Int) == (t : Int) + 1) = true := by simp
          have q2 : (f + (t : Int) == f + ((t : Int) + 1) - 1) = true := by simp; omega
          go_wp2_with fail
          refine (stuck_any _ _ _ (ringP f t) _ HRG8.out HRO.out).mono ?_; rintro e w9 ⟨A9, n9, c9, r9, rfl, o9, k9, b9⟩
          obtain rfl := ring_stuck k9
          obtain rfl : n9 = t + 1 := by have h1 := o9.1; rw [iv_length, runI_len] at h1; omega
          have HB9 := Lib.hid (bthen HB8.out b9)
          clear o9 k9 b9 HB8 HRG8
          go_wp2_with fail
          refine (lives_any _).mono ?_; rintro e wa ⟨rfl, ba⟩
          go_wp2_with fail
          go_ret
          exact ⟨rfl, bthen HB9.out ba⟩
end Go.Proofs.Ytpdfhbgemmpleaa.waitsChains
