/- The contract of the reference's Comes (layer 22). -/
import Derived.Test.YtpdfhbgemmpleaaWtRef2
namespace Go.Proofs.Ytpdfhbgemmpleaa.T
open Go.RowKit

/-- Few numbers, each once. -/
structure Sm (L : Gr) (out : List Int) : Prop where
  nd : out.Nodup
  s : ∀ x ∈ out, x ∈ allE L
theorem Sm.len {L : Gr} {out : List Int} (h : Sm L out) (ok : GOk L) : out.length ≤ 440 := Nat.le_trans (nodup_len h.nd h.s) ok.allLen
theorem Sm.nil (L : Gr) : Sm L [] := ⟨List.nodup_nil, by simp⟩
theorem forE_all {L : Gr} {x y : Int} (h : y ∈ forE L x) : y ∈ allE L := (Reach.one h : Reach (forE L) x y).inAll
theorem Sm.adds {L : Gr} {out ys : List Int} (h : Sm L out) (hy : ∀ y ∈ ys, y ∈ allE L) : Sm L (adds out ys) := ⟨adds_nodup h.nd, fun x hx => by
  rcases mem_adds.1 hx with hx | hx
  · exact h.s x hx
  · exact hy x hx⟩
theorem adds_take {f : List Int} {t : Nat} (h : t < f.length) (out : List Int) : adds out (f.take (t + 1)) = if f[t] ∈ adds out (f.take t) then adds out (f.take t) else adds out (f.take t) ++ [f[t]] := by
  rw [List.take_succ_eq_append_getElem h, adds_snoc]
set_option maxHeartbeats 1000000 in
set_option maxRecDepth 100000 in
theorem for_old (A A' : Option Addr) (n c n' c' : Nat) (L : Gr) (who : Int) (w0 w : World) (h : PR w0 A n c A' n' c' L) (hb : Below w0.heap.size w0 w) (hn : n ≤ 1000) :
    Calls Try.prog 25 #[.slice A n c, .slice A' n' c', .int .i64 who] w fun e w' => (∃ A1 n1 c1, e = .returned (.slice A1 n1 c1) ∧ NRow w0 A1 n1 c1 (forE L who)) ∧ w' = w := by
  obtain ⟨hl, hl'⟩ := h.len
  have HP := Lib.hid h
  have HL := Lib.hid hl
  have HL' := Lib.hid hl'
  have HBB := Lib.hid hb
  clear h hl hl' hb
  go_enter Try.func25, Try.ntmps25
  go_wp2_with fail
  go_loop [6, 11] (fun _ iv => ∃ j : Nat, j ≤ n ∧ iv = .int .i64 (j : Int) ∧ Hid (∀ p ∈ L.take j, p.1 ≠ who)) (fun _ iv => n - (intOf iv).toNat)
  case atStart => exact ⟨0, by omega, rfl, Lib.hid (by simp)⟩
  case round =>
    obtain ⟨j, hj, rfl, HN⟩ := hrel
    by_cases hlt : j < n
    · have hji : (j : Int) < (n : Int) := by omega
      have hjl : j < L.length := by rw [HL.out]; exact hlt
      obtain ⟨b1, off, rfl, hbl, hc⟩ := HP.out.a.at (j := j) (by simpa using hjl)
      have hcell := hc w HBB.out
      obtain ⟨b2, off2, A1, n1, c1, rfl, hbl2, hr1, hc2⟩ := HP.out.b.at (k := j) (by simpa using hjl)
      have hcell2 := hc2 w HBB.out
      have hjn : j < n' := by rw [← HL'.out, HL.out]; exact hlt
      have hjni : (j : Int) < (n' : Int) := by omega
      have e1 : (L.map (·.1))[j]'(by simpa using hjl) = L[j].1 := by simp
      have e2 : (L.map (·.2))[j]'(by simpa using hjl) = L[j].2 := by simp
      rw [e1] at hcell
      rw [e2] at hr1
      have HAT := Lib.hid (forE_at (x := who) hjl HN.out)
      have HTK : Hid (L.take (j + 1) = L.take j ++ [L[j]]) := Lib.hid (List.take_succ_eq_append_getElem hjl)
      have HR1 := Lib.hid hr1
      clear hc hc2 hr1 e1 e2
      generalize L[j] = p at *
      by_cases he : p.1 = who
      · have d1 : (p.1 == who) = true := by simpa using he
        have HF := Lib.hid (HAT.out he)
        clear he
        go_wp2_with fail
        go_ret
        exact ⟨⟨A1, n1, c1, rfl, by rw [HF.out]; exact HR1.out⟩, rfl⟩
      · have d1 : (p.1 == who) = false := by simpa using he
        have HE := Lib.hid he
        clear he
        go_wp2_with fail
        go_round
        case rel => exact ⟨j + 1, by omega, by go_num, Lib.hid (fun q hq => by
          rw [HTK.out] at hq
          rcases List.mem_append.1 hq with h | h
          · exact HN.out q h
          · rw [List.mem_singleton] at h; rw [h]; exact HE.out)⟩
        case measure => simp [intOf]; omega
    · obtain rfl : j = n := by omega
      have HN2 := Lib.hid (forE_mem (L := L) (x := who) (fun p hp => HN.out p (by rw [List.take_of_length_le (by rw [HL.out]; exact Nat.le_refl _)]; exact hp)))
      go_wp2_with fail
      go_ret
      exact ⟨⟨none, 0, 0, rfl, by rw [HN2.out]; exact NRow.nil _ _⟩, rfl⟩
set_option maxHeartbeats 2000000 in
set_option maxRecDepth 100000 in
theorem rcomes_any (A A' : Option Addr) (n c n' c' : Nat) (L : Gr) (who : Int) (w : World) (h : PR w A n c A' n' c' L) (ok : GOk L) :
    Calls Try.prog 22 #[.slice A n c, .slice A' n' c', .int .i64 who] w fun e w' => ∃ B q d out, e = .returned (.slice B q d) ∧ w'.ownsRow w.heap.size 3 1 (.slice B q d) q (iv out) ∧ Sm L out ∧ (∀ x, x ∈ out ↔ Reach (forE L) who x) ∧ Below w.heap.size w w' := by
  have hn : n ≤ 1000 := by have := h.len.1; have := ok.n; omega
  have HP := Lib.hid h
  have OK := Lib.hid ok
  clear h ok
  go_enter Try.func22, Try.ntmps22
  go_wp2_with fail
  refine (for_old A A' n c n' c' L who w _ HP.out (Below.refl _ _) hn).mono ?_; rintro e w' ⟨⟨A1, n1, c1, rfl, r1⟩, hw'⟩
  replace hw' := hw'.symm
  subst hw'
  have HR1 := Lib.hid r1
  have hl1 := r1.len
  have HL1 := Lib.hid hl1
  have HS1 : Hid (∀ y ∈ forE L who, y ∈ allE L) := Lib.hid (fun y hy => forE_all hy)
  have hn11 : n1 ≤ 11 := by have := (OK.out.forE who).1; omega
  clear r1 hl1
  obtain ⟨f, hf⟩ : ∃ f, forE L who = f := ⟨_, rfl⟩
  rw [hf] at HR1 HL1 HS1
  have HF := Lib.hid hf
  clear hf
  go_wp2_with fail
  go_loopw [7, 9, 18] (fun ov _ iv wr => ∃ (t : Nat) (B : Option Addr) (q d : Nat), t ≤ n1 ∧ iv = .int .i64 (t : Int) ∧ ov = .slice B q d ∧ Hid (wr.ownsRow w.heap.size 3 1 (.slice B q d) q (T.iv (adds [] (f.take t)))) ∧ Hid (Below w.heap.size w wr)) (fun _ _ iv _ => n1 - (intOf iv).toNat)
  case atStart => exact ⟨0, none, 0, 0, by omega, rfl, rfl, Lib.hid (World.ownsRow_nil _ _ _ _), Lib.hid (Below.refl _ _)⟩
  case round =>
    obtain ⟨t, B, q, d, ht, rfl, rfl, HO, HB⟩ := hrel
    have hsm : Sm L (adds [] (f.take t)) := (Sm.nil L).adds (fun y hy => HS1.out y (List.mem_of_mem_take hy))
    have hq : (adds [] (f.take t)).length = q := by have := HO.out.1; simpa using this
    have hq440 := hsm.len OK.out
    have HQ := Lib.hid hq
    have hq4 : q ≤ 440 := by omega
    clear hq hq440 hsm
    by_cases htn : t < n1
    · have htni : (t : Int) < (n1 : Int) := by omega
      have htl : t < f.length := by rw [HL1.out]; exact htn
      obtain ⟨b1, off, rfl, hbl, hc⟩ := HR1.out.at htl
      have q1 := hc wr HB.out
      have HTK := Lib.hid (adds_take htl [])
      clear hc
      generalize f[t] = x at *
      go_wp2_with fail
      refine (has_any _ _ _ _ x _ (NRow.own HO.out) (by omega)).mono ?_; rintro e wr ⟨rfl, rfl⟩
      by_cases hx : x ∈ adds [] (f.take t)
      · have HTK2 := HTK.out
        rw [if_pos hx] at HTK2
        have HT3 := Lib.hid HTK2
        rw [decide_eq_true hx]
        clear hx HTK2
        go_wp2_with fail
        go_roundw
        case rel => exact ⟨t + 1, B, q, d, by omega, by go_num, rfl, by rw [HT3.out]; exact HO, HB⟩
        case measure => simp [intOf]; omega
      · have HTK2 := HTK.out
        rw [if_neg hx] at HTK2
        have HT3 := Lib.hid HTK2
        rw [decide_eq_false hx]
        have OX := Lib.hid (HO.out.alloc (.cells #[.int .i64 x] 3))
        have HB2 := Lib.hid (bthen HB.out (bsz _ (.cells #[.int .i64 x] 3)))
        have hsz := HB.out.size
        clear hx HTK2
        go_wp2_with (at_builtin; refine wpList_app rfl (.tmp 26) (.tmp 28) intE rfl w.heap.size _ rfl OX.out rfl [.int .i64 x] (Rd.made _ [.int .i64 x] rfl (by simp)) (by simp [Value.oneCell']) (by unfold maxLen; omega) (by omega) (by simp; omega) ?_; intro A6 c6 w6 o6 g6 _; have HO6 := Lib.hid o6; have HB6 := Lib.hid (below_app HB2.out OX.out g6 (by simp; omega)); clear o6 g6)
        go_roundw
        case rel => exact ⟨t + 1, A6, q + 1, c6, by omega, by go_num, rfl, Lib.hid (by rw [HT3.out, iv_append]; exact HO6.out), HB6⟩
        case measure => simp [intOf]; omega
    · obtain rfl : t = n1 := by omega
      have hbi := BI.start (forE L) who
      rw [HF.out] at hbi
      have HBI := Lib.hid hbi
      have ho := HO.out
      rw [List.take_of_length_le (by rw [HL1.out]; exact Nat.le_refl _)] at ho
      have HO0 := Lib.hid ho
      have HB0 := Lib.hid HB.out
      clear ho hbi HO HB HQ hq4 HS1 HL1 HR1
      go_wp2_with fail
      go_loopw [7, 10, 12] (fun ov iv _ wr => ∃ (i : Nat) (B : Option Addr) (q d : Nat) (out : List Int), iv = .int .i64 (i : Int) ∧ ov = .slice B q d ∧ Hid (BI (forE L) who out i) ∧ Hid (wr.ownsRow w.heap.size 3 1 (.slice B q d) q (T.iv out)) ∧ Hid (Below w.heap.size w wr)) (fun _ iv _ _ => 441 - (intOf iv).toNat)
      case atStart => exact ⟨0, B, q, d, _, rfl, rfl, HBI, HO0, HB0⟩
      case round =>
        obtain ⟨i, B, q, d, out, rfl, rfl, HI, HO, HB⟩ := hrel
        generalize wr = wo at *
        clear HO0 HB0 HBI
        have hsm : Sm L out := ⟨HI.out.nd, fun x hx => (HI.out.s x hx).inAll⟩
        have hq : out.length = q := by have := HO.out.1; simpa using this
        have hq440 := hsm.len OK.out
        have HQ := Lib.hid hq
        have HSM := Lib.hid hsm
        have hq4 : q ≤ 440 := by omega
        have hiq : i ≤ q := by have := HI.out.i; omega
        clear hq hq440 hsm
        by_cases hlt : i < q
        · have hlti : (i : Int) < (q : Int) := by omega
          have hil : i < out.length := by rw [HQ.out]; exact hlt
          obtain ⟨b1, off, rfl, hbl, hc⟩ := (NRow.own HO.out).at hil
          have q1 := hc wo (Below.refl _ _)
          have HST := Lib.hid (HI.out.step hil)
          clear hc
          generalize out[i] = z at *
          go_wp2_with fail
          refine (for_old A A' n c n' c' L z w _ HP.out HB.out hn).mono ?_; rintro e w5 ⟨⟨A2, n2, c2, rfl, r2⟩, hw5⟩
          replace hw5 := hw5.symm
          subst hw5
          have HR2 := Lib.hid r2
          have hl2 := r2.len
          have hn12 : n2 ≤ 11 := by have := (OK.out.forE z).1; omega
          have HS2 : Hid (∀ y ∈ forE L z, y ∈ allE L) := Lib.hid (fun y hy => forE_all hy)
          have HL2 := Lib.hid hl2
          clear r2 hl2 q1
          generalize forE L z = f2 at *
          go_wp2_with fail
          go_loopw [7, 12, 45] (fun ov _ iv wr => ∃ (t : Nat) (B : Option Addr) (q d : Nat), t ≤ n2 ∧ iv = .int .i64 (t : Int) ∧ ov = .slice B q d ∧ Hid (wr.ownsRow w.heap.size 3 1 (.slice B q d) q (T.iv (adds out (f2.take t)))) ∧ Hid (Below w.heap.size w wr)) (fun _ _ iv _ => n2 - (intOf iv).toNat)
          case atStart => exact ⟨0, some ⟨b1, off, none⟩, q, d, by omega, rfl, rfl, HO, HB⟩
          case round =>
            obtain ⟨t, B, q', d', ht, rfl, rfl, HO2, HB2⟩ := hrel
            have hsm : Sm L (adds out (f2.take t)) := HSM.out.adds (fun y hy => HS2.out y (List.mem_of_mem_take hy))
            have hq : (adds out (f2.take t)).length = q' := by have := HO2.out.1; simpa using this
            have hq440 := hsm.len OK.out
            have HQ' := Lib.hid hq
            have hq4' : q' ≤ 440 := by omega
            have HR3 := Lib.hid (HR2.out)
            clear hq hq440 hsm HO HB
            by_cases htn : t < n2
            · have htni : (t : Int) < (n2 : Int) := by omega
              have htl : t < f2.length := by rw [HL2.out]; exact htn
              obtain ⟨b2, off2, rfl, hbl2, hc2⟩ := HR2.out.at htl
              have q2 := hc2 wr HB2.out
              have HTK := Lib.hid (adds_take htl out)
              clear hc2
              generalize f2[t] = x at *
              go_wp2_with fail
              refine (has_any _ _ _ _ x _ (NRow.own HO2.out) (by omega)).mono ?_; rintro e wr ⟨rfl, rfl⟩
              by_cases hx : x ∈ adds out (f2.take t)
              · have HTK2 := HTK.out
                rw [if_pos hx] at HTK2
                have HT3 := Lib.hid HTK2
                rw [decide_eq_true hx]
                clear hx HTK2
                go_wp2_with fail
                go_roundw
                case rel => exact ⟨t + 1, B, q', d', by omega, by go_num, rfl, by rw [HT3.out]; exact HO2, HB2⟩
                case measure => simp [intOf]; omega
              · have HTK2 := HTK.out
                rw [if_neg hx] at HTK2
                have HT3 := Lib.hid HTK2
                rw [decide_eq_false hx]
                have OX := Lib.hid (HO2.out.alloc (.cells #[.int .i64 x] 3))
                have HB3 := Lib.hid (bthen HB2.out (bsz _ (.cells #[.int .i64 x] 3)))
                have hsz := HB2.out.size
                clear hx HTK2
                go_wp2_with (at_builtin; refine wpList_app rfl (.tmp 53) (.tmp 55) intE rfl w.heap.size _ rfl OX.out rfl [.int .i64 x] (Rd.made _ [.int .i64 x] rfl (by simp)) (by simp [Value.oneCell']) (by unfold maxLen; omega) (by omega) (by simp; omega) ?_; intro A6 c6 w6 o6 g6 _; have HO6 := Lib.hid o6; have HB6 := Lib.hid (below_app HB3.out OX.out g6 (by simp; omega)); clear o6 g6)
                go_roundw
                case rel => exact ⟨t + 1, A6, q' + 1, c6, by omega, by go_num, rfl, Lib.hid (by rw [HT3.out, iv_append]; exact HO6.out), HB6⟩
                case measure => simp [intOf]; omega
            · obtain rfl : t = n2 := by omega
              have ho := HO2.out
              rw [List.take_of_length_le (by rw [HL2.out]; exact Nat.le_refl _)] at ho
              have HO3 := Lib.hid ho
              clear ho HO2
              go_wp2_with fail
              go_roundw
              case rel => exact ⟨i + 1, B, q', d', _, by go_num, rfl, HST, HO3, HB2⟩
              case measure => simp [intOf]; omega
        · obtain rfl : i = q := by omega
          have hfin : ∀ x, x ∈ out ↔ Reach (forE L) who x := by
            have := HI.out
            rw [← HQ.out] at this
            exact this.fin
          have HFIN := Lib.hid hfin
          clear hfin
          go_wp2_with fail
          go_ret
          exact ⟨_, _, _, out, rfl, HO.out, HSM.out, HFIN.out, HB.out⟩
end Go.Proofs.Ytpdfhbgemmpleaa.T
