/- WaitsRounds' walk: for every row of waits it returns true. -/
import Derived.Test.YtpdfhbgemmpleaaWtRef4
import Derived.Test.YtpdfhbgemmpleaaWtOpen
namespace Go.Proofs.Ytpdfhbgemmpleaa.waitsRounds
open Go.RowKit T

theorem key_for {L : Gr} (h : (L.map (·.1)).Nodup) {t : Nat} (ht : t < L.length) : forE L (L[t]).1 = (L[t]).2 := by
  refine forE_at ht (fun p hp e => ?_) rfl
  obtain ⟨j, hj, e2⟩ := List.getElem_of_mem hp
  rw [List.length_take] at hj
  rw [List.getElem_take] at e2
  have h1 : (L.map (·.1))[j]'(by simp; omega) = (L.map (·.1))[t]'(by simp; exact ht) := by
    simp only [List.getElem_map]
    rw [e2, e]
  have := (List.getElem_inj h).1 h1
  omega
theorem stuck_row {L : Gr} (h : (L.map (·.1)).Nodup) {l m : List Int} (hl : IsRow (stuckP L) l) (hm : IsRow (· ∈ (L.map (·.1)).filter (stuckB L)) m) : m = l := by
  refine hm.uniq (hl.imp fun x => ?_)
  rw [List.mem_filter, stuckB_iff]
  refine ⟨fun k => ⟨?_, k⟩, fun k => k.2⟩
  rcases forE_in L x with e | e
  · exact absurd e k.1
  · exact List.mem_map.2 ⟨_, e, rfl⟩
set_option maxHeartbeats 4000000 in
set_option maxRecDepth 100000 in
theorem walk (v0 : Value) (whos : List Int) (v1 : Value) (fors : List (List Int)) (who : Int) (w : World) (h0 : IsNs w v0 whos) (h1 : IsFs w v1 fors) (h2 : (Lit.int .i64 who).wf = true) :
    Calls Try.prog 4 #[v0, v1, .int .i64 who] w fun e w' => e = .returned (.bool true) ∧ Below w.heap.size w w' := by
  obtain ⟨A, n, c, rfl, hn, hnw, _⟩ := h0
  obtain ⟨A', n', c', rfl, hf, hfw, _⟩ := h1
  have HN := Lib.hid hn
  have HF := Lib.hid hf
  have HNW := Lib.hid hnw
  have HFW := Lib.hid hfw
  have HWW := Lib.hid (wf.of h2)
  clear hn hf hnw hfw h2
  go_enter Try.func4, Try.ntmps4
  go_wp2_with fail
  refine (row_any _ _ _ _ _ _ whos fors _ HN.out HF.out HNW.out HFW.out).mono ?_; rintro e w1 ⟨A1, A2, A3, c1, c2, c3, k, L, rfl, r3, ro⟩
  have HG := Lib.hid r3.rows.1
  have HP := Lib.hid r3.rows.2
  have HB := Lib.hid r3.b
  have HL := Lib.hid r3.len
  have HO := Lib.hid ro.ok
  have HND := Lib.hid ro.nd
  have hk20 : k ≤ 20 := by have := r3.len; have := ro.n; omega
  clear r3 ro HN HF HNW HFW
  go_wp2_with fail
  refine (rround_any _ _ _ _ _ _ L who _ HP.out HO.out).mono ?_; rintro e w2 ⟨A5, n5, c5, r, rfl, o5, r5, b5⟩
  have hrn : r.length = n5 := by have := o5.1; simpa using this
  have hrl := round_len HO.out r5
  have hn5 : n5 ≤ 440 := by omega
  have HRN := Lib.hid hrn
  have HR := Lib.hid r5
  have HN5 := Lib.hid (NRow.own o5)
  have HB2 := Lib.hid b5
  clear o5 r5 b5 hrn hrl
  go_wp2_with fail
  refine (victim_any _ _ _ L who _ (HG.out.next HB2.out) HO.out HWW.out).mono ?_; rintro e w3 ⟨⟨l6, v, r6, hv, rfl⟩, b6⟩
  obtain rfl : l6 = r := r6.uniq HR.out
  have HV := Lib.hid hv
  have HB3 := Lib.hid (bthen HB2.out b6)
  have HN3 := Lib.hid (HN5.out.next b6)
  clear r6 hv b6 HN5 HB2
  go_wp2_with fail
  refine (round_any _ _ _ L who _ (HG.out.next HB3.out) HO.out HWW.out).mono ?_; rintro e w4 ⟨A7, n7, c7, r7, rfl, o7, k7, b7⟩
  obtain rfl : r7 = l6 := k7.uniq HR.out
  obtain rfl : n7 = n5 := by have h := o7.1; simp at h; have := HRN.out; omega
  have HB4 := Lib.hid (bthen HB3.out b7)
  have HN4 := Lib.hid (HN3.out.next b7)
  have HM4 := Lib.hid (NRow.own o7)
  clear o7 k7 b7 HN3 HB3
  go_wp2_with fail
  refine (same_any _ _ _ _ _ _ r7 r7 _ HM4.out HN4.out (by omega) (by omega)).mono ?_; rintro e w5 ⟨rfl, b8⟩
  have HB5 := Lib.hid (bthen HB4.out b8)
  have HN5 := Lib.hid (HN4.out.next b8)
  clear b8 HN4 HM4 HB4
  rw [decide_eq_true rfl]
  rcases Nat.eq_zero_or_pos n7 with h0 | hp
  · have hr0 : r7 = [] := List.eq_nil_of_length_eq_zero (by rw [HRN.out, h0])
    subst h0 hr0
    have hv := HV.out
    rw [show lastI [] = 0 from rfl] at hv
    subst hv
    rw [show (!List.isEmpty ([] : List Int)) = false from rfl]
    clear HV
    go_wp2_with fail
    refine (runs_any _ _ _ L who _ (HG.out.next HB5.out) HO.out HWW.out).mono ?_; rintro e w6 ⟨A8, n8, c8, l8, rfl, o8, k8, b9⟩
    have hl8 := runs_len HO.out k8
    have hn8 : l8.length = n8 := by have := o8.1; simpa using this
    have hn84 : n8 ≤ 441 := by omega
    have HN8 := Lib.hid hn8
    have HK8 := Lib.hid k8
    have HB6 := Lib.hid (bthen HB5.out b9)
    have HR8 := Lib.hid (NRow.own o8)
    clear o8 k8 b9 hl8 hn8 HB5
    go_wp2_with fail
    refine (rruns_any _ _ _ _ _ _ L who _ (HP.out.next HB6.out) HO.out).mono ?_; rintro e w7 ⟨A9, n9, c9, l9, rfl, o9, k9, b10⟩
    obtain rfl : l9 = l8 := k9.uniq HK8.out
    obtain rfl : n9 = n8 := by have h := o9.1; simp at h; have := HN8.out; omega
    have HB7 := Lib.hid (bthen HB6.out b10)
    have HR9 := Lib.hid (NRow.own o9)
    have HR7 := Lib.hid (HR8.out.next b10)
    clear o9 k9 b10 HR8 HB6
    go_wp2_with fail
    refine (same_any _ _ _ _ _ _ l9 l9 _ HR7.out HR9.out (by omega) (by omega)).mono ?_; rintro e w8 ⟨rfl, b11⟩
    have HB8 := Lib.hid (bthen HB7.out b11)
    clear b11 HR7 HR9 HB7 HN8 HK8 hn84
    rw [decide_eq_true rfl]
    go_wp2_with fail
    go_loopw [13, 14, 15, 80] (fun ov _ _ iv wr => ∃ (t : Nat) (B : Option Addr) (q d : Nat), t ≤ k ∧ q ≤ t ∧ iv = .int .i64 (t : Int) ∧ ov = .slice B q d ∧ Hid (wr.ownsRow w8.heap.size 3 1 (.slice B q d) q (T.iv (((L.map (·.1)).take t).filter (stuckB L)))) ∧ Hid (Below w8.heap.size w8 wr)) (fun _ _ _ iv _ => k - (intOf iv).toNat)
    case atStart => exact ⟨0, none, 0, 0, by omega, by omega, rfl, rfl, Lib.hid (World.ownsRow_nil _ _ _ _), Lib.hid (Below.refl _ _)⟩
    case round =>
      obtain ⟨t, B, q, d, ht, hqt, rfl, rfl, HOW, HBR⟩ := hrel
      by_cases htn : t < k
      · have htni : (t : Int) < (k : Int) := by omega
        have htl : t < L.length := by rw [HL.out]; exact htn
        obtain ⟨b1, off1, rfl, hb1, hc1⟩ := HP.out.a.at (j := t) (by simpa using htl)
        have qa := hc1 wr (bthen HB8.out HBR.out)
        obtain ⟨b2, off2, A10, n10, c10, rfl, hb2, hr10, hc2⟩ := HP.out.b.at (k := t) (by simpa using htl)
        have qb := hc2 wr (bthen HB8.out HBR.out)
        have e1 : (L.map (·.1))[t]'(by simpa using htl) = L[t].1 := by simp
        have e2 : (L.map (·.2))[t]'(by simpa using htl) = L[t].2 := by simp
        have hkf := key_for HND.out htl
        have HTK := Lib.hid (filter_take (f := stuckB L) (l := L.map (·.1)) (t := t) (by simpa using htl))
        rw [e1] at qa HTK
        have hl10 := hr10.len
        rw [e2, ← hkf] at hl10
        clear hc1 hc2 e1 e2 hkf hr10
        generalize L[t].1 = x at *
        by_cases hf0 : forE L x = []
        · have hn10 : n10 = 0 := by rw [← hl10, hf0]; rfl
          subst hn10
          have hst : stuckB L x = false := stuck_no (fun h => h.1 hf0)
          have HT3 := Lib.hid (HTK.out.trans (by rw [hst, if_neg (by decide), List.append_nil]))
          clear hst hf0 hl10
          go_wp2_with fail
          go_roundw
          case rel => exact ⟨t + 1, B, q, d, by omega, by omega, by go_num, rfl, by rw [HT3.out]; exact HOW, HBR⟩
          case measure => simp [intOf]; omega
        · have hn10 : 0 < n10 := by rw [← hl10]; exact List.length_pos_iff.2 hf0
          have d10 : decide ((n10 : Int) > 0) = true := by simp; omega
          have HFN := Lib.hid hf0
          clear hf0 hl10
          go_wp2_with fail
          refine (rruns_any _ _ _ _ _ _ L x _ (HP.out.next (bthen HB8.out HBR.out)) HO.out).mono ?_; rintro e w9 ⟨A11, n11, c11, l11, rfl, o11, k11, b12⟩
          have hn11 : l11.length = n11 := by have := o11.1; simpa using this
          have hl11 := runs_len HO.out k11
          have hq : ((n11 : Int) == 0) = stuckB L x := by
            rw [← hn11]
            cases hl : l11 with
            | nil =>
              symm
              rw [show (((([] : List Int).length : Nat) : Int) == 0) = true from rfl]
              exact stuckB_iff.2 ⟨HFN.out, fun y hy => by have := (k11.mem y).2 hy; rw [hl] at this; simp at this⟩
            | cons y l =>
              rw [stuck_no (fun h : stuckP L x => h.2 y ((k11.mem y).1 (by rw [hl]; simp)))]
              simp; omega
          have HO5 := Lib.hid (own_below HOW.out b12)
          have HB9 := Lib.hid (bthen HBR.out b12)
          clear o11 k11 b12 hn11 hl11 HOW HBR
          cases hf : stuckB L x with
          | false =>
            have HT3 := Lib.hid (HTK.out.trans (by rw [hf, if_neg (by decide), List.append_nil]))
            rw [hf] at hq
            clear hf
            go_wp2_with fail
            go_roundw
            case rel => exact ⟨t + 1, B, q, d, by omega, by omega, by go_num, rfl, by rw [HT3.out]; exact HO5, HB9⟩
            case measure => simp [intOf]; omega
          | true =>
            have HT3 := Lib.hid (HTK.out.trans (by rw [hf, if_pos rfl]))
            rw [hf] at hq
            have OX := Lib.hid (HO5.out.alloc (.cells #[.int .i64 x] 3))
            have HBX := Lib.hid (bthen HB9.out (bsz _ (.cells #[.int .i64 x] 3)))
            have hsz := HB9.out.size
            clear hf
            go_wp2_with (at_builtin; refine wpList_app rfl (.tmp 99) (.tmp 101) intE rfl w8.heap.size _ rfl OX.out rfl [.int .i64 x] (Rd.made _ [.int .i64 x] rfl (by simp)) (by simp [Value.oneCell']) (by unfold maxLen; omega) (by omega) (by simp; omega) ?_; intro A12 c12 wx o12 g12 _; have HO12 := Lib.hid o12; have HB12 := Lib.hid (below_app HBX.out OX.out g12 (by simp; omega)); clear o12 g12)
            go_roundw
            case rel => exact ⟨t + 1, A12, q + 1, c12, by omega, by omega, by go_num, rfl, Lib.hid (by rw [HT3.out, iv_append]; exact HO12.out), HB12⟩
            case measure => simp [intOf]; omega
      · obtain rfl : t = k := by omega
        have ho := HOW.out
        rw [List.take_of_length_le (by simp [HL.out])] at ho
        have HO2 := Lib.hid ho
        have HNF : Hid ((L.map (·.1)).filter (stuckB L)).Nodup := Lib.hid (HND.out.filter _)
        clear ho HOW
        go_wp2_with fail
        refine (stuck_any _ _ _ L _ (HG.out.next (bthen HB8.out HBR.out)) HO.out).mono ?_; rintro e w9 ⟨A11, n11, c11, l11, rfl, o11, k11, b12⟩
        have HN11 := Lib.hid (NRow.own o11)
        have hn11 : l11.length = n11 := by have := o11.1; simpa using this
        have HLN := Lib.hid hn11
        have HK11 := Lib.hid k11
        have HB9 := Lib.hid (bthen HBR.out b12)
        have HO3 := Lib.hid (own_below HO2.out b12)
        clear o11 k11 b12 HO2 HBR hn11
        go_wp2_with fail
        refine (rrising_any _ _ _ _ _ (NRow.own HO3.out) HNF.out (by omega)).mono ?_; rintro e wx ⟨A12, n12, c12, l12, rfl, o12, k12, b13⟩
        obtain rfl := stuck_row HND.out HK11.out k12
        obtain rfl : n12 = n11 := by have h := o12.1; simp at h; have := HLN.out; omega
        have hl12 : n12 ≤ 40 := by
          have h1 : l12.length ≤ (L.map (·.1)).length := nodup_len k12.nodup (fun x hx => (List.mem_filter.1 ((k12.mem x).1 hx)).1)
          have h2 := HLN.out
          have h3 := HL.out
          simp at h1
          omega
        have HB13 := Lib.hid (bthen HB9.out b13)
        have HNX := Lib.hid (HN11.out.next b13)
        have HNY := Lib.hid (NRow.own o12)
        clear o12 k12 b13 HN11 HB9
        go_wp2_with fail
        refine (same_any _ _ _ _ _ _ l12 l12 _ HNX.out HNY.out (by omega) (by omega)).mono ?_; rintro e wy ⟨rfl, b14⟩
        have HB14 := Lib.hid (bthen HB13.out b14)
        clear b14 HNX HNY HB13
        rw [decide_eq_true rfl]
        go_wp2_with fail
        refine (lives_any _).mono ?_; rintro e wz ⟨rfl, b15⟩
        go_wp2_with fail
        go_ret
        exact ⟨rfl, bthen HB.out (bthen (bthen HB8.out HB14.out) b15)⟩
  · have hemp : (!r7.isEmpty) = true := by
      have := HRN.out
      cases r7 with
      | nil => simp at this; omega
      | cons _ _ => rfl
    rw [hemp]
    obtain ⟨b0, off0, rfl, hb0, hc0⟩ := HN5.out.at (j := n7 - 1) (by have := HRN.out; omega)
    have q0 := hc0 w5 (Below.refl _ _)
    have hla : r7[n7 - 1]'(by have := HRN.out; omega) = v := by
      rw [HV.out]
      unfold lastI
      have hi : r7.length - 1 = n7 - 1 := by rw [HRN.out]
      rw [List.getD_eq_getElem?_getD, hi, List.getElem?_eq_getElem (by have := HRN.out; omega)]
      rfl
    rw [hla] at q0
    have e1 : (n7 : Int) - 1 = ((n7 - 1 : Nat) : Int) := by omega
    have hlt : n7 - 1 < n7 := by omega
    have dp : decide ((n7 : Int) > 0) = true := by simp; omega
    clear hemp hc0 hla
    go_wp2_with fail
    clear e1 hlt dp q0
    refine (runs_any _ _ _ L who _ (HG.out.next HB5.out) HO.out HWW.out).mono ?_; rintro e w6 ⟨A8, n8, c8, l8, rfl, o8, k8, b9⟩
    have hl8 := runs_len HO.out k8
    have hn8 : l8.length = n8 := by have := o8.1; simpa using this
    have hn84 : n8 ≤ 441 := by omega
    have HN8 := Lib.hid hn8
    have HK8 := Lib.hid k8
    have HB6 := Lib.hid (bthen HB5.out b9)
    have HR8 := Lib.hid (NRow.own o8)
    clear o8 k8 b9 hl8 hn8 HB5
    go_wp2_with fail
    refine (rruns_any _ _ _ _ _ _ L who _ (HP.out.next HB6.out) HO.out).mono ?_; rintro e w7 ⟨A9, n9, c9, l9, rfl, o9, k9, b10⟩
    obtain rfl : l9 = l8 := k9.uniq HK8.out
    obtain rfl : n9 = n8 := by have h := o9.1; simp at h; have := HN8.out; omega
    have HB7 := Lib.hid (bthen HB6.out b10)
    have HR9 := Lib.hid (NRow.own o9)
    have HR7 := Lib.hid (HR8.out.next b10)
    clear o9 k9 b10 HR8 HB6
    go_wp2_with fail
    refine (same_any _ _ _ _ _ _ l9 l9 _ HR7.out HR9.out (by omega) (by omega)).mono ?_; rintro e w8 ⟨rfl, b11⟩
    have HB8 := Lib.hid (bthen HB7.out b11)
    clear b11 HR7 HR9 HB7 HN8 HK8 hn84
    rw [decide_eq_true rfl]
    go_wp2_with fail
    go_loopw [13, 14, 15, 80] (fun ov _ _ iv wr => ∃ (t : Nat) (B : Option Addr) (q d : Nat), t ≤ k ∧ q ≤ t ∧ iv = .int .i64 (t : Int) ∧ ov = .slice B q d ∧ Hid (wr.ownsRow w8.heap.size 3 1 (.slice B q d) q (T.iv (((L.map (·.1)).take t).filter (stuckB L)))) ∧ Hid (Below w8.heap.size w8 wr)) (fun _ _ _ iv _ => k - (intOf iv).toNat)
    case atStart => exact ⟨0, none, 0, 0, by omega, by omega, rfl, rfl, Lib.hid (World.ownsRow_nil _ _ _ _), Lib.hid (Below.refl _ _)⟩
    case round =>
      obtain ⟨t, B, q, d, ht, hqt, rfl, rfl, HOW, HBR⟩ := hrel
      by_cases htn : t < k
      · have htni : (t : Int) < (k : Int) := by omega
        have htl : t < L.length := by rw [HL.out]; exact htn
        obtain ⟨b1, off1, rfl, hb1, hc1⟩ := HP.out.a.at (j := t) (by simpa using htl)
        have qa := hc1 wr (bthen HB8.out HBR.out)
        obtain ⟨b2, off2, A10, n10, c10, rfl, hb2, hr10, hc2⟩ := HP.out.b.at (k := t) (by simpa using htl)
        have qb := hc2 wr (bthen HB8.out HBR.out)
        have e1 : (L.map (·.1))[t]'(by simpa using htl) = L[t].1 := by simp
        have e2 : (L.map (·.2))[t]'(by simpa using htl) = L[t].2 := by simp
        have hkf := key_for HND.out htl
        have HTK := Lib.hid (filter_take (f := stuckB L) (l := L.map (·.1)) (t := t) (by simpa using htl))
        rw [e1] at qa HTK
        have hl10 := hr10.len
        rw [e2, ← hkf] at hl10
        clear hc1 hc2 e1 e2 hkf hr10
        generalize L[t].1 = x at *
        by_cases hf0 : forE L x = []
        · have hn10 : n10 = 0 := by rw [← hl10, hf0]; rfl
          subst hn10
          have hst : stuckB L x = false := stuck_no (fun h => h.1 hf0)
          have HT3 := Lib.hid (HTK.out.trans (by rw [hst, if_neg (by decide), List.append_nil]))
          clear hst hf0 hl10
          go_wp2_with fail
          go_roundw
          case rel => exact ⟨t + 1, B, q, d, by omega, by omega, by go_num, rfl, by rw [HT3.out]; exact HOW, HBR⟩
          case measure => simp [intOf]; omega
        · have hn10 : 0 < n10 := by rw [← hl10]; exact List.length_pos_iff.2 hf0
          have d10 : decide ((n10 : Int) > 0) = true := by simp; omega
          have HFN := Lib.hid hf0
          clear hf0 hl10
          go_wp2_with fail
          refine (rruns_any _ _ _ _ _ _ L x _ (HP.out.next (bthen HB8.out HBR.out)) HO.out).mono ?_; rintro e w9 ⟨A11, n11, c11, l11, rfl, o11, k11, b12⟩
          have hn11 : l11.length = n11 := by have := o11.1; simpa using this
          have hl11 := runs_len HO.out k11
          have hq : ((n11 : Int) == 0) = stuckB L x := by
            rw [← hn11]
            cases hl : l11 with
            | nil =>
              symm
              rw [show (((([] : List Int).length : Nat) : Int) == 0) = true from rfl]
              exact stuckB_iff.2 ⟨HFN.out, fun y hy => by have := (k11.mem y).2 hy; rw [hl] at this; simp at this⟩
            | cons y l =>
              rw [stuck_no (fun h : stuckP L x => h.2 y ((k11.mem y).1 (by rw [hl]; simp)))]
              simp; omega
          have HO5 := Lib.hid (own_below HOW.out b12)
          have HB9 := Lib.hid (bthen HBR.out b12)
          clear o11 k11 b12 hn11 hl11 HOW HBR
          cases hf : stuckB L x with
          | false =>
            have HT3 := Lib.hid (HTK.out.trans (by rw [hf, if_neg (by decide), List.append_nil]))
            rw [hf] at hq
            clear hf
            go_wp2_with fail
            go_roundw
            case rel => exact ⟨t + 1, B, q, d, by omega, by omega, by go_num, rfl, by rw [HT3.out]; exact HO5, HB9⟩
            case measure => simp [intOf]; omega
          | true =>
            have HT3 := Lib.hid (HTK.out.trans (by rw [hf, if_pos rfl]))
            rw [hf] at hq
            have OX := Lib.hid (HO5.out.alloc (.cells #[.int .i64 x] 3))
            have HBX := Lib.hid (bthen HB9.out (bsz _ (.cells #[.int .i64 x] 3)))
            have hsz := HB9.out.size
            clear hf
            go_wp2_with (at_builtin; refine wpList_app rfl (.tmp 99) (.tmp 101) intE rfl w8.heap.size _ rfl OX.out rfl [.int .i64 x] (Rd.made _ [.int .i64 x] rfl (by simp)) (by simp [Value.oneCell']) (by unfold maxLen; omega) (by omega) (by simp; omega) ?_; intro A12 c12 wx o12 g12 _; have HO12 := Lib.hid o12; have HB12 := Lib.hid (below_app HBX.out OX.out g12 (by simp; omega)); clear o12 g12)
            go_roundw
            case rel => exact ⟨t + 1, A12, q + 1, c12, by omega, by omega, by go_num, rfl, Lib.hid (by rw [HT3.out, iv_append]; exact HO12.out), HB12⟩
            case measure => simp [intOf]; omega
      · obtain rfl : t = k := by omega
        have ho := HOW.out
        rw [List.take_of_length_le (by simp [HL.out])] at ho
        have HO2 := Lib.hid ho
        have HNF : Hid ((L.map (·.1)).filter (stuckB L)).Nodup := Lib.hid (HND.out.filter _)
        clear ho HOW
        go_wp2_with fail
        refine (stuck_any _ _ _ L _ (HG.out.next (bthen HB8.out HBR.out)) HO.out).mono ?_; rintro e w9 ⟨A11, n11, c11, l11, rfl, o11, k11, b12⟩
        have HN11 := Lib.hid (NRow.own o11)
        have hn11 : l11.length = n11 := by have := o11.1; simpa using this
        have HLN := Lib.hid hn11
        have HK11 := Lib.hid k11
        have HB9 := Lib.hid (bthen HBR.out b12)
        have HO3 := Lib.hid (own_below HO2.out b12)
        clear o11 k11 b12 HO2 HBR hn11
        go_wp2_with fail
        refine (rrising_any _ _ _ _ _ (NRow.own HO3.out) HNF.out (by omega)).mono ?_; rintro e wx ⟨A12, n12, c12, l12, rfl, o12, k12, b13⟩
        obtain rfl := stuck_row HND.out HK11.out k12
        obtain rfl : n12 = n11 := by have h := o12.1; simp at h; have := HLN.out; omega
        have hl12 : n12 ≤ 40 := by
          have h1 : l12.length ≤ (L.map (·.1)).length := nodup_len k12.nodup (fun x hx => (List.mem_filter.1 ((k12.mem x).1 hx)).1)
          have h2 := HLN.out
          have h3 := HL.out
          simp at h1
          omega
        have HB13 := Lib.hid (bthen HB9.out b13)
        have HNX := Lib.hid (HN11.out.next b13)
        have HNY := Lib.hid (NRow.own o12)
        clear o12 k12 b13 HN11 HB9
        go_wp2_with fail
        refine (same_any _ _ _ _ _ _ l12 l12 _ HNX.out HNY.out (by omega) (by omega)).mono ?_; rintro e wy ⟨rfl, b14⟩
        have HB14 := Lib.hid (bthen HB13.out b14)
        clear b14 HNX HNY HB13
        rw [decide_eq_true rfl]
        go_wp2_with fail
        refine (lives_any _).mono ?_; rintro e wz ⟨rfl, b15⟩
        go_wp2_with fail
        go_ret
        exact ⟨rfl, bthen HB.out (bthen (bthen HB8.out HB14.out) b15)⟩
end Go.Proofs.Ytpdfhbgemmpleaa.waitsRounds
