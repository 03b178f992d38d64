/- The contracts of the reference's Round and Runs (layer 22). -/
import Derived.Test.YtpdfhbgemmpleaaWtRef3
namespace Go.Proofs.Ytpdfhbgemmpleaa.T
open Go.RowKit

theorem filter_take {f : Int → Bool} {l : List Int} {t : Nat} (h : t < l.length) : (l.take (t + 1)).filter f = (l.take t).filter f ++ if f l[t] then [l[t]] else [] := by
  rw [List.take_succ_eq_append_getElem h, List.filter_append]
  simp [List.filter_cons]
set_option maxHeartbeats 2000000 in
set_option maxRecDepth 100000 in
theorem rround_any (A A' : Option Addr) (n c n' c' : Nat) (L : Gr) (who : Int) (w : World) (h : PR w A n c A' n' c' L) (ok : GOk L) :
    Calls Try.prog 11 #[.slice A n c, .slice A' n' c', .int .i64 who] w (RetN (roundP L who) w) := by
  have HP := Lib.hid h
  have OK := Lib.hid ok
  clear h ok
  go_enter Try.func11, Try.ntmps11
  go_wp2_with fail
  refine (rcomes_any A A' n c n' c' L who _ HP.out OK.out).mono ?_; rintro e w1 ⟨B1, q1, d1, out, rfl, o1, sm, hout, b1⟩
  have hq : out.length = q1 := by have := o1.1; simpa using this
  have hql := sm.len OK.out
  have HQ := Lib.hid hq
  have hq4 : q1 ≤ 440 := by omega
  have HN := Lib.hid (NRow.own o1)
  have HS := Lib.hid sm
  have HOU := Lib.hid hout
  have HB := Lib.hid b1
  clear o1 sm hout b1 hq hql
  go_wp2_with fail
  go_loopw [7, 9, 15] (fun ov _ iv wr => ∃ (t : Nat) (B : Option Addr) (q d : Nat), t ≤ q1 ∧ q ≤ t ∧ iv = .int .i64 (t : Int) ∧ ov = .slice B q d ∧ Hid (wr.ownsRow w1.heap.size 3 1 (.slice B q d) q (T.iv ((out.take t).filter fun x => reachB (forE L) x who))) ∧ Hid (Below w1.heap.size w1 wr)) (fun _ _ iv _ => q1 - (intOf iv).toNat)
  case atStart => exact ⟨0, none, 0, 0, by omega, by omega, rfl, rfl, Lib.hid (World.ownsRow_nil _ _ _ _), Lib.hid (Below.refl _ _)⟩
  case round =>
    obtain ⟨t, B, q, d, ht, hqt, rfl, rfl, HO, HBR⟩ := hrel
    by_cases htn : t < q1
    · have htni : (t : Int) < (q1 : Int) := by omega
      have htl : t < out.length := by rw [HQ.out]; exact htn
      obtain ⟨b5, off5, rfl, hbl, hc⟩ := HN.out.at htl
      have qc := hc wr HBR.out
      have HTK := Lib.hid (filter_take (f := fun x => reachB (forE L) x who) htl)
      clear hc
      generalize out[t] = x at *
      go_wp2_with fail
      refine (rcomes_any A A' n c n' c' L x _ (HP.out.next (bthen HB.out HBR.out)) OK.out).mono ?_; rintro e w5 ⟨B5, q5, d5, out5, rfl, o5, sm5, hout5, b5⟩
      have hq5 : out5.length = q5 := by have := o5.1; simpa using this
      have hql5 := sm5.len OK.out
      have hq54 : q5 ≤ 1000 := by omega
      have HN5 := Lib.hid (NRow.own o5)
      have HO5 := Lib.hid (own_below HO.out b5)
      have HB5 := Lib.hid (bthen HBR.out b5)
      have hdec : decide (who ∈ out5) = reachB (forE L) x who := by
        unfold reachB
        by_cases hr : Reach (forE L) x who
        · rw [decide_eq_true ((hout5 who).2 hr)]
          exact (@decide_eq_true _ (Classical.propDecidable _) hr).symm
        · rw [decide_eq_false (fun h => hr ((hout5 who).1 h))]
          exact (@decide_eq_false _ (Classical.propDecidable _) hr).symm
      have HDEC := Lib.hid hdec
      clear o5 sm5 hout5 b5 hq5 hql5 hdec HO HBR qc
      go_wp2_with fail
      refine (has_any _ _ _ _ who _ HN5.out hq54).mono ?_; rintro e wr ⟨rfl, rfl⟩
      rw [HDEC.out]
      cases hf : reachB (forE L) x who
      · have HTK2 := HTK.out
        rw [hf] at HTK2
        have HTK3 := HTK2.trans (by rw [if_neg (by decide), List.append_nil])
        have HT3 := Lib.hid HTK3
        clear hf HTK2 HTK3
        go_wp2_with fail
        go_roundw
        case rel => exact ⟨t + 1, B, q, d, by omega, by omega, by go_num, rfl, by rw [HT3.out]; exact HO5, HB5⟩
        case measure => simp [intOf]; omega
      · have HTK2 := HTK.out
        rw [hf] at HTK2
        have HTK3 := HTK2.trans (by rw [if_pos rfl])
        have HT3 := Lib.hid HTK3
        have OX := Lib.hid (HO5.out.alloc (.cells #[.int .i64 x] 3))
        have HB6 := Lib.hid (bthen HB5.out (bsz _ (.cells #[.int .i64 x] 3)))
        have hsz := HB5.out.size
        clear hf HTK2 HTK3
        go_wp2_with (at_builtin; refine wpList_app rfl (.tmp 25) (.tmp 27) intE rfl w1.heap.size _ rfl OX.out rfl [.int .i64 x] (Rd.made _ [.int .i64 x] rfl (by simp)) (by simp [Value.oneCell']) (by unfold maxLen; omega) (by omega) (by simp; omega) ?_; intro A6 c6 w6 o6 g6 _; have HO6 := Lib.hid o6; have HB7 := Lib.hid (below_app HB6.out OX.out g6 (by simp; omega)); clear o6 g6)
        go_roundw
        case rel => exact ⟨t + 1, A6, q + 1, c6, by omega, by omega, by go_num, rfl, Lib.hid (by rw [HT3.out, iv_append]; exact HO6.out), HB7⟩
        case measure => simp [intOf]; omega
    · obtain rfl : t = q1 := by omega
      have ho := HO.out
      rw [List.take_of_length_le (by rw [HQ.out]; exact Nat.le_refl _)] at ho
      have hnd : (out.filter fun x => reachB (forE L) x who).Nodup := HS.out.nd.filter _
      have HO2 := Lib.hid ho
      have HND := Lib.hid hnd
      clear ho hnd HO
      go_wp2_with fail
      refine (rrising_any _ _ _ _ _ (NRow.own HO2.out) HND.out (by omega)).mono ?_; rintro e w9 ⟨A9, n9, c9, l9, rfl, o9, r9, b9⟩
      have HO9 := Lib.hid o9
      have HR9 := Lib.hid r9
      clear o9 r9
      go_wp2_with fail
      go_ret
      refine ⟨A9, n9, c9, l9, rfl, own_moreT HO9.out (bthen HB.out HBR.out).size, HR9.out.imp (fun x => ?_), bthen (bthen HB.out HBR.out) b9⟩
      rw [List.mem_filter, reachB_iff, HOU.out x]
      exact Iff.rfl
set_option maxHeartbeats 2000000 in
set_option maxRecDepth 100000 in
theorem rruns_any (A A' : Option Addr) (n c n' c' : Nat) (L : Gr) (who : Int) (w : World) (h : PR w A n c A' n' c' L) (ok : GOk L) :
    Calls Try.prog 14 #[.slice A n c, .slice A' n' c', .int .i64 who] w (RetN (runsP L who) w) := by
  have hn : n ≤ 1000 := by have := h.len.1; have := ok.n; omega
  have HP := Lib.hid h
  have OK := Lib.hid ok
  clear h ok
  go_enter Try.func14, Try.ntmps14
  go_wp2_with fail
  refine (rcomes_any A A' n c n' c' L who _ HP.out OK.out).mono ?_; rintro e w1 ⟨B1, q1, d1, out, rfl, o1, sm, hout, b1⟩
  have hq : out.length = q1 := by have := o1.1; simpa using this
  have hql := sm.len OK.out
  have HQ := Lib.hid hq
  have hq4 : q1 ≤ 440 := by omega
  have HO1 := Lib.hid o1
  have HS := Lib.hid sm
  have HOU := Lib.hid hout
  have HB := Lib.hid b1
  clear o1 sm hout b1 hq hql
  go_wp2_with fail
  refine (has_any _ _ _ _ who _ (NRow.own HO1.out) (by omega)).mono ?_; rintro e w1 ⟨rfl, rfl⟩
  by_cases hw : who ∈ out
  · have HLS : Hid (∀ x, x ∈ out ↔ Reach (forE L) who x ∨ x = who) := Lib.hid (fun x => ⟨fun h => .inl ((HOU.out x).1 h), fun h => by
      rcases h with h | rfl
      · exact (HOU.out x).2 h
      · exact hw⟩)
    have HND := Lib.hid HS.out.nd
    have HN := Lib.hid (NRow.own HO1.out)
    rw [decide_eq_true hw]
    clear hw HO1 HOU HS
    go_wp2_with fail
    go_loopw [7, 10, 25] (fun ov _ iv wr => ∃ (t : Nat) (B : Option Addr) (q d : Nat), t ≤ q1 ∧ q ≤ t ∧ iv = .int .i64 (t : Int) ∧ ov = .slice B q d ∧ Hid (wr.ownsRow w1.heap.size 3 1 (.slice B q d) q (T.iv ((out.take t).filter fun x => decide (forE L x = [])))) ∧ Hid (Below w1.heap.size w1 wr)) (fun _ _ iv _ => q1 - (intOf iv).toNat)
    case atStart => exact ⟨0, none, 0, 0, by omega, by omega, rfl, rfl, Lib.hid (World.ownsRow_nil _ _ _ _), Lib.hid (Below.refl _ _)⟩
    case round =>
      obtain ⟨t, B, q, d, ht, hqt, rfl, rfl, HO, HBR⟩ := hrel
      by_cases htn : t < q1
      · have htni : (t : Int) < (q1 : Int) := by omega
        have htl : t < out.length := by rw [HQ.out]; exact htn
        obtain ⟨b5, off5, rfl, hbl, hc⟩ := HN.out.at htl
        have qc := hc wr HBR.out
        have HTK := Lib.hid (filter_take (f := fun x => decide (forE L x = [])) htl)
        clear hc
        generalize out[t] = x at *
        go_wp2_with fail
        refine (for_any A A' n c n' c' L x _ (HP.out.next (bthen HB.out HBR.out)) hn).mono ?_; rintro e wr ⟨⟨A5, n5, c5, rfl, r5⟩, rfl⟩
        have hl5 := r5.len
        have hdec : ((n5 : Int) == 0) = decide (forE L x = []) := by
          rw [← hl5]
          cases forE L x with
          | nil => rfl
          | cons a l => simp; omega
        have HO5 := Lib.hid HO.out
        have HB5 := Lib.hid HBR.out
        clear r5 hl5 HO HBR qc
        cases hf : decide (forE L x = [])
        all_goals (rw [hf] at hdec)
        · have HTK2 := HTK.out
          rw [hf] at HTK2
          have HTK3 := HTK2.trans (by rw [if_neg (by decide), List.append_nil])
          have HT3 := Lib.hid HTK3
          clear hf HTK2 HTK3
          go_wp2_with fail
          go_roundw
          case rel => exact ⟨t + 1, B, q, d, by omega, by omega, by go_num, rfl, by rw [HT3.out]; exact HO5, HB5⟩
          case measure => simp [intOf]; omega
        · have HTK2 := HTK.out
          rw [hf] at HTK2
          have HTK3 := HTK2.trans (by rw [if_pos rfl])
          have HT3 := Lib.hid HTK3
          have OX := Lib.hid (HO5.out.alloc (.cells #[.int .i64 x] 3))
          have HB6 := Lib.hid (bthen HB5.out (bsz _ (.cells #[.int .i64 x] 3)))
          have hsz := HB5.out.size
          clear hf HTK2 HTK3
          go_wp2_with (at_builtin; refine wpList_app rfl (.tmp 35) (.tmp 37) intE rfl w1.heap.size _ rfl OX.out rfl [.int .i64 x] (Rd.made _ [.int .i64 x] rfl (by simp)) (by simp [Value.oneCell']) (by unfold maxLen; omega) (by omega) (by simp; omega) ?_; intro A6 c6 w6 o6 g6 _; have HO6 := Lib.hid o6; have HB7 := Lib.hid (below_app HB6.out OX.out g6 (by simp; omega)); clear o6 g6)
          go_roundw
          case rel => exact ⟨t + 1, A6, q + 1, c6, by omega, by omega, by go_num, rfl, Lib.hid (by rw [HT3.out, iv_append]; exact HO6.out), HB7⟩
          case measure => simp [intOf]; omega
      · obtain rfl : t = q1 := by omega
        have ho := HO.out
        rw [List.take_of_length_le (by rw [HQ.out]; exact Nat.le_refl _)] at ho
        have hnd : (out.filter fun x => decide (forE L x = [])).Nodup := HND.out.filter _
        have HO2 := Lib.hid ho
        have HND2 := Lib.hid hnd
        clear ho hnd HO
        go_wp2_with fail
        refine (rrising_any _ _ _ _ _ (NRow.own HO2.out) HND2.out (by omega)).mono ?_; rintro e w9 ⟨A9, n9, c9, l9, rfl, o9, r9, b9⟩
        have HO9 := Lib.hid o9
        have HR9 := Lib.hid r9
        clear o9 r9
        go_wp2_with fail
        go_ret
        refine ⟨A9, n9, c9, l9, rfl, own_moreT HO9.out (bthen HB.out HBR.out).size, HR9.out.imp (fun x => ?_), bthen (bthen HB.out HBR.out) b9⟩
        rw [List.mem_filter, decide_eq_true_iff, HLS.out x]
        exact Iff.rfl
  · have HLS : Hid (∀ x, x ∈ out ++ [who] ↔ Reach (forE L) who x ∨ x = who) := Lib.hid (fun x => by
      rw [List.mem_append, HOU.out x, List.mem_singleton])
    have HND : Hid (out ++ [who]).Nodup := Lib.hid (by
      rw [List.nodup_append]
      exact ⟨HS.out.nd, by simp, fun a ha b hb e => by simp at hb; subst hb; exact hw (e ▸ ha)⟩)
    have HQ2 : Hid ((out ++ [who]).length = q1 + 1) := Lib.hid (by simp [HQ.out])
    rw [decide_eq_false hw]
    have OX := Lib.hid (HO1.out.alloc (.cells #[.int .i64 who] 3))
    have HBX := Lib.hid (bthen HB.out (bsz _ (.cells #[.int .i64 who] 3)))
    have hsz := HB.out.size
    clear hw HO1 HOU HS HQ HB
    go_wp2_with (at_builtin; refine wpList_app rfl (.tmp 19) (.tmp 21) intE rfl w.heap.size _ rfl OX.out rfl [.int .i64 who] (Rd.made _ [.int .i64 who] rfl (by simp)) (by simp [Value.oneCell']) (by unfold maxLen; omega) (by omega) (by simp; omega) ?_; intro B2 d2 w2 o6 g6 _; have HB := Lib.hid (below_app HBX.out OX.out g6 (by simp; omega)); rw [show ([Value.int .i64 who] : List Value) = iv [who] from rfl, ← iv_append] at o6; have HN := Lib.hid (NRow.own o6); clear o6 g6)
    clear OX HBX
    generalize out ++ [who] = out2 at *
    obtain ⟨q2, hq2⟩ : ∃ q2, q1 + 1 = q2 := ⟨_, rfl⟩
    have hq5 : q2 ≤ 441 := by omega
    have hq2i : (q1 : Int) + 1 = (q2 : Int) := by omega
    try simp only [hq2] at HN HQ2 ⊢
    try simp only [hq2i]
    clear hq2i
    go_loopw [7, 10, 25] (fun ov _ iv wr => ∃ (t : Nat) (B : Option Addr) (q d : Nat), t ≤ q2 ∧ q ≤ t ∧ iv = .int .i64 (t : Int) ∧ ov = .slice B q d ∧ Hid (wr.ownsRow w2.heap.size 3 1 (.slice B q d) q (T.iv ((out2.take t).filter fun x => decide (forE L x = [])))) ∧ Hid (Below w2.heap.size w2 wr)) (fun _ _ iv _ => q2 - (intOf iv).toNat)
    case atStart => exact ⟨0, none, 0, 0, by omega, by omega, rfl, rfl, Lib.hid (World.ownsRow_nil _ _ _ _), Lib.hid (Below.refl _ _)⟩
    case round =>
      obtain ⟨t, B, q, d, ht, hqt, rfl, rfl, HO, HBR⟩ := hrel
      by_cases htn : t < q2
      · have htni : (t : Int) < (q2 : Int) := by omega
        have htl : t < out2.length := by rw [HQ2.out]; exact htn
        obtain ⟨b5, off5, rfl, hbl, hc⟩ := HN.out.at htl
        have qc := hc wr HBR.out
        have HTK := Lib.hid (filter_take (f := fun x => decide (forE L x = [])) htl)
        clear hc
        generalize out2[t] = x at *
        go_wp2_with fail
        refine (for_any A A' n c n' c' L x _ (HP.out.next (bthen HB.out HBR.out)) hn).mono ?_; rintro e wr ⟨⟨A5, n5, c5, rfl, r5⟩, rfl⟩
        have hl5 := r5.len
        have hdec : ((n5 : Int) == 0) = decide (forE L x = []) := by
          rw [← hl5]
          cases forE L x with
          | nil => rfl
          | cons a l => simp; omega
        have HO5 := Lib.hid HO.out
        have HB5 := Lib.hid HBR.out
        clear r5 hl5 HO HBR qc
        cases hf : decide (forE L x = [])
        all_goals (rw [hf] at hdec)
        · have HTK2 := HTK.out
          rw [hf] at HTK2
          have HTK3 := HTK2.trans (by rw [if_neg (by decide), List.append_nil])
          have HT3 := Lib.hid HTK3
          clear hf HTK2 HTK3
          go_wp2_with fail
          go_roundw
          case rel => exact ⟨t + 1, B, q, d, by omega, by omega, by go_num, rfl, by rw [HT3.out]; exact HO5, HB5⟩
          case measure => simp [intOf]; omega
        · have HTK2 := HTK.out
          rw [hf] at HTK2
          have HTK3 := HTK2.trans (by rw [if_pos rfl])
          have HT3 := Lib.hid HTK3
          have OX := Lib.hid (HO5.out.alloc (.cells #[.int .i64 x] 3))
          have HB6 := Lib.hid (bthen HB5.out (bsz _ (.cells #[.int .i64 x] 3)))
          have hsz := HB5.out.size
          clear hf HTK2 HTK3
          go_wp2_with (at_builtin; refine wpList_app rfl (.tmp 35) (.tmp 37) intE rfl w2.heap.size _ rfl OX.out rfl [.int .i64 x] (Rd.made _ [.int .i64 x] rfl (by simp)) (by simp [Value.oneCell']) (by unfold maxLen; omega) (by omega) (by simp; omega) ?_; intro A6 c6 w6 o6 g6 _; have HO6 := Lib.hid o6; have HB7 := Lib.hid (below_app HB6.out OX.out g6 (by simp; omega)); clear o6 g6)
          go_roundw
          case rel => exact ⟨t + 1, A6, q + 1, c6, by omega, by omega, by go_num, rfl, Lib.hid (by rw [HT3.out, iv_append]; exact HO6.out), HB7⟩
          case measure => simp [intOf]; omega
      · obtain rfl : t = q2 := by omega
        have ho := HO.out
        rw [List.take_of_length_le (by rw [HQ2.out]; exact Nat.le_refl _)] at ho
        have hnd : (out2.filter fun x => decide (forE L x = [])).Nodup := HND.out.filter _
        have HO2 := Lib.hid ho
        have HND2 := Lib.hid hnd
        clear ho hnd HO
        go_wp2_with fail
        refine (rrising_any _ _ _ _ _ (NRow.own HO2.out) HND2.out (by omega)).mono ?_; rintro e w9 ⟨A9, n9, c9, l9, rfl, o9, r9, b9⟩
        have HO9 := Lib.hid o9
        have HR9 := Lib.hid r9
        clear o9 r9
        go_wp2_with fail
        go_ret
        refine ⟨A9, n9, c9, l9, rfl, own_moreT HO9.out (bthen HB.out HBR.out).size, HR9.out.imp (fun x => ?_), bthen (bthen HB.out HBR.out) b9⟩
        rw [List.mem_filter, decide_eq_true_iff, HLS.out x]
        exact Iff.rfl
end Go.Proofs.Ytpdfhbgemmpleaa.T
