/- WaitsMore's walk: for every row of waits and every wait more it returns true. -/
import Derived.Test.YtpdfhbgemmpleaaWtMore
import Derived.Test.YtpdfhbgemmpleaaSchedE
namespace Go.Proofs.Ytpdfhbgemmpleaa.waitsMore
open Go.RowKit T

set_option maxHeartbeats 4000000 in
set_option maxRecDepth 100000 in
theorem walk (v0 : Value) (whos : List Int) (v1 : Value) (fors : List (List Int)) (v2 : Value) (ends : Int × Int) (w : World) (h0 : IsNs w v0 whos) (h1 : IsFs w v1 fors) (h2 : IsTwo v2 ends) :
    Calls Try.prog 3 #[v0, v1, v2] w fun e w' => e = .returned (.bool true) ∧ Below w.heap.size w w' := by
  obtain ⟨A, n, c, rfl, hn, hnw, _⟩ := h0
  obtain ⟨A', n', c', rfl, hf, hfw, _⟩ := h1
  obtain ⟨rfl, he0, he1⟩ := h2
  obtain ⟨ea, eb⟩ := ends
  dsimp only at he0 he1
  have BX : Below w.heap.size w (w.alloc (.cells #[.int .i64 ea, .int .i64 eb] 24)) := bsz _ _
  have HN := Lib.hid (hn.next BX)
  have HF := Lib.hid (hf.next BX)
  have HX := Lib.hid (heap_alloc_new w (.cells #[.int .i64 ea, .int .i64 eb] 24))
  have HNW := Lib.hid hnw
  have HFW := Lib.hid hfw
  have HE1 := Lib.hid he1
  have HBX := Lib.hid BX
  clear hn hf hnw hfw he0 he1 BX
  go_enter Try.func3, Try.ntmps3
  go_wp2_with fail
  refine (row_any _ _ _ _ _ _ whos fors _ HN.out HF.out HNW.out HFW.out).mono ?_; rintro e w1 ⟨A1, A2, A3, c1, c2, c3, k, L, rfl, r3, ro⟩
  have HG := Lib.hid r3.rows.1
  have HB1 := Lib.hid (bthen HBX.out r3.b)
  have HX1 := Lib.hid (box_next HX.out r3.b)
  have hlen := r3.len
  have HL := Lib.hid hlen
  have HO := Lib.hid ro
  have hk20 : k ≤ 20 := by have := ro.n; omega
  have HMO := Lib.hid (moreP_ok (a := ea) ro HE1.out)
  clear r3 hlen ro HN HF HX HNW HFW HBX
  go_wp2_with fail
  go_loopw [12, 14, 15, 18, 20, 21, 23, 33] (fun _ _ _ _ _ _ _ iv wr => ∃ j : Nat, j ≤ k ∧ iv = .int .i64 (j : Int) ∧ Hid (Below w1.heap.size w1 wr)) (fun _ _ _ _ _ _ _ iv _ => k - (intOf iv).toNat)
  case atStart => exact ⟨0, by omega, rfl, Lib.hid (Below.refl _ _)⟩
  case round =>
    obtain ⟨j, hj, rfl, HB⟩ := hrel
    generalize wr = wo at *
    by_cases hlt : j < k
    · have hji : (j : Int) < (k : Int) := by omega
      have hjl : j < L.length := by rw [HL.out]; exact hlt
      obtain ⟨b1, off, A4, n4, c4, rfl, hbl, hr4, hc⟩ := HG.out.at hjl
      obtain ⟨q0, q1⟩ := hc wo HB.out
      have hwf := HO.out.w _ (List.getElem_mem hjl)
      have HWF := Lib.hid hwf
      clear hc hwf hr4
      generalize L[j] = p at *
      obtain ⟨p1, p2⟩ := p
      dsimp only at *
      have hX := heap_alloc_new wo (.cells #[.int .i64 p1, .slice A4 n4 c4] 29)
      have x0 : (wo.alloc (.cells #[.int .i64 p1, .slice A4 n4 c4] 29)).cell? ⟨wo.heap.size, 0, none⟩ = some (.int .i64 p1) := by rw [Lib.cell_of_heap hX]; rfl
      have HX2 := Lib.hid hX
      have HB2 := Lib.hid (bthen HB.out (bsz _ (.cells #[.int .i64 p1, .slice A4 n4 c4] 29)))
      clear hX
      go_wp2_with fail
      refine (round_any _ _ _ L p1 _ (HG.out.next HB2.out) HO.out.ok HWF.out).mono ?_; rintro e w5 ⟨A5, n5, c5, r, rfl, o5, r5, b5⟩
      have hrl := round_len HO.out.ok r5
      have hr5n : r.length = n5 := by have := o5.1; simpa using this
      have HR := Lib.hid r5
      have HRN := Lib.hid (NRow.own o5)
      have HRL := Lib.hid hr5n
      have hn5 : n5 ≤ 440 := by omega
      have HB5 := Lib.hid (bthen HB2.out b5)
      have HX5 := Lib.hid (box_next HX2.out b5)
      have HXE := Lib.hid (box_next (box_next HX1.out HB2.out) b5)
      have hg5 : wo.heap.size < w5.heap.size := (Array.getElem?_eq_some_iff.1 HX5.out).1
      clear r5 o5 b5 hr5n hrl HB2 HX2 x0 q0 q1
      go_wp2_with fail
      go_loopw [14, 43] (fun _ iv wq => ∃ i : Nat, i ≤ n5 ∧ iv = .int .i64 (i : Int) ∧ Hid (Below w5.heap.size w5 wq)) (fun _ iv _ => n5 - (intOf iv).toNat)
      case atStart => exact ⟨0, by omega, rfl, Lib.hid (Below.refl _ _)⟩
      case round =>
        obtain ⟨i, hi, rfl, HB6⟩ := hrel
        generalize wr = wq at *
        by_cases hin : i < n5
        · have hini : (i : Int) < (n5 : Int) := by omega
          have hil : i < r.length := by rw [HRL.out]; exact hin
          obtain ⟨b6, off6, rfl, hbl6, hc6⟩ := HRN.out.at hil
          have q6 := hc6 wq HB6.out
          have HME := Lib.hid (List.getElem_mem hil)
          clear hc6
          generalize r[i] = x at *
          have HWX := Lib.hid (HO.out.ok.all ((HR.out.mem x).1 HME.out).1.inAll)
          go_wp2_with fail
          refine (round_any _ _ _ L x _ (HG.out.next (bthen HB5.out HB6.out)) HO.out.ok HWX.out).mono ?_; rintro e w7 ⟨A7, n7, c7, r7, rfl, o7, r7', b7⟩
          obtain rfl := round_same HR.out HME.out r7'
          have HB7 := Lib.hid (bthen HB6.out b7)
          have HN7 := Lib.hid (NRow.own o7)
          obtain rfl : n7 = n5 := by have := o7.1; simp at this; rw [← this, HRL.out]
          clear o7 r7' b7 q6 HB6
          go_wp2_with fail
          refine (same_any _ _ _ _ _ _ r7 r7 _ HN7.out (HRN.out.next HB7.out) (by omega) (by omega)).mono ?_; rintro e w8 ⟨rfl, b8⟩
          have HB8 := Lib.hid (bthen HB7.out b8)
          clear b8 HB7 HN7
          rw [decide_eq_true rfl]
          go_wp2_with fail
          go_roundw
          case rel => exact ⟨i + 1, by omega, by go_num, HB8⟩
          case measure => simp [intOf]; omega
        · obtain rfl : i = n5 := by omega
          go_wp2_with fail
          have HB9 := Lib.hid (bthen HB5.out HB6.out)
          have HR9 := Lib.hid (HRN.out.next HB6.out)
          have HX9 := Lib.hid (box_next HX5.out HB6.out)
          have HE9 := Lib.hid (box_next HXE.out HB6.out)
          have hg9 : wo.heap.size < wq.heap.size := Nat.lt_of_lt_of_le hg5 HB6.out.size
          clear HB5 HRN HX5 HXE HB6
          go_loopw [15, 56] (fun mv iv wz => ∃ (q : Nat) (B c : _) , q ≤ k ∧ iv = .int .i64 (q : Int) ∧ mv = .slice B q c ∧ Hid (∃ xs, wz.ownsRow wq.heap.size 29 2 (.slice B q c) q xs ∧ Reps (WtO wq wz) (moreP ea eb (L.take q)) xs) ∧ Hid (Below wq.heap.size wq wz)) (fun _ iv _ => k - (intOf iv).toNat)
          case atStart => exact ⟨0, none, 0, by omega, rfl, rfl, Lib.hid ⟨[], World.ownsRow_nil _ _ _ _, rfl⟩, Lib.hid (Below.refl _ _)⟩
          case round =>
            obtain ⟨q, B, c9, hq, rfl, rfl, HOX, HBZ⟩ := hrel
            generalize wr = wz at *
            by_cases hqk : q < k
            · have hqki : (q : Int) < (k : Int) := by omega
              have hql : q < L.length := by rw [HL.out]; exact hqk
              obtain ⟨b8, off8, A8, n8, c8, e8, hbl8, hr8, hc8⟩ := HG.out.at hql
              injection e8 with e8
              injection e8 with e8 e8'
              subst e8 e8'
              obtain ⟨q0, q1⟩ := hc8 wz (bthen HB9.out HBZ.out)
              have HTK : Hid (moreP ea eb (L.take (q + 1)) = moreP ea eb (L.take q) ++ [if L[q].1 = ea then (L[q].1, L[q].2 ++ [eb]) else L[q]]) := Lib.hid (by rw [List.take_succ_eq_append_getElem hql, moreP_snoc])
              have HR8 := Lib.hid (hr8.next HB9.out)
              have hm8 := HO.out.m _ (List.getElem_mem hql)
              have hl8 := hr8.len
              have hn8 : n8 ≤ 10 := by omega
              clear hc8 hr8 hm8 
              generalize L[q] = p' at *
              obtain ⟨p', f⟩ := p'
              dsimp only at *
              have hX := heap_alloc_new wz (.cells #[.int .i64 p', .slice A8 n8 c8] 29)
              have y0 : (wz.alloc (.cells #[.int .i64 p', .slice A8 n8 c8] 29)).cell? ⟨wz.heap.size, 0, none⟩ = some (.int .i64 p') := by rw [Lib.cell_of_heap hX]; rfl
              have y1 : (wz.alloc (.cells #[.int .i64 p', .slice A8 n8 c8] 29)).cell? ⟨wz.heap.size, 1, none⟩ = some (.slice A8 n8 c8) := by rw [Lib.cell_of_heap hX]; rfl
              have hE := box_next (box_next HE9.out HBZ.out) (bsz wz (.cells #[.int .i64 p', .slice A8 n8 c8] 29))
              have z0 : (wz.alloc (.cells #[.int .i64 p', .slice A8 n8 c8] 29)).cell? ⟨w.heap.size, 0, none⟩ = some (.int .i64 ea) := by rw [Lib.cell_of_heap hE]; rfl
              have HXZ := Lib.hid hX
              have HEZ := Lib.hid hE
              have HBX := Lib.hid (bsz wz (.cells #[.int .i64 p', .slice A8 n8 c8] 29))
              clear hX hE
              by_cases hpe : p' = ea
              · have d1 : (p' == ea) = true := by simpa using hpe
                rw [if_pos hpe] at HTK
                clear hpe
                go_wp2_with fail
                clear y0 y1 z0 q0 q1
                have hS1 : (wz.alloc (.cells #[.int .i64 p', .slice A8 n8 c8] 29)).heap.size = wz.heap.size + 1 := by simp
                generalize (wz.alloc (.cells #[.int .i64 p', .slice A8 n8 c8] 29)) = W1 at *
                refine wp_region_last (l := [_, _, _, _, _, _, _, _, _]) [w.heap.size, wz.heap.size] (.read 1 (.read 2 (.read 4 (.read 5 (.two 0 6 (.two 3 6 (.call 6 (.call 7 (.read 8 .done))) (.call 3 (.call 7 (.read 8 .done)))) (.call 0 (.call 3 (.call 7 (.read 8 .done))))))))) (by kernel_rfl) (by kernel_rfl) (by kernel_rfl) (fun _ _ d _ _ h => by cases d <;> exact h) ?_
                refine pwith (fun W hW => (show W.cell? ⟨wz.heap.size, 1, none⟩ = some (.slice A8 n8 c8) from by rw [Lib.cell_of_heap ((hW wz.heap.size (by simp)).trans HXZ.out)]; rfl)) (fun k1 => ?_)
                refine pwith (fun W hW => (show W.cell? ⟨w.heap.size, 1, none⟩ = some (.int .i64 eb) from by rw [Lib.cell_of_heap ((hW w.heap.size (by simp)).trans HEZ.out)]; rfl)) (fun k2 => ?_)
                have HB2 := Lib.hid HBX.out.drew
                have hS2 : W1.drew.heap.size = wz.heap.size + 1 := hS1
                replace HXZ : Hid (W1.drew.heap[wz.heap.size]? = some (.cells #[.int .i64 p', .slice A8 n8 c8] 29 (0, 0))) := HXZ
                have hw0 : w.heap.size < wz.heap.size := by have := (Array.getElem?_eq_some_iff.1 HE9.out).1; have := HBZ.out.size; omega
                have HR2 := Lib.hid ((HR8.out.next HBZ.out).next HB2.out)
                have hwq := HBZ.out.size
                clear HEZ hS1 HBX
                generalize W1.drew = W2 at *
                have hbs : ∀ b ∈ [w.heap.size, wz.heap.size], b < W2.heap.size := fun b hb => by simp at hb; omega
                have hzW : wz.heap.size < W2.heap.size := by omega
                have HBS := Lib.hid hbs
                have HO0 := Lib.hid (own_mt W2 (e := 3) (size := 1) (Nat.le_refl W2.heap.size))
                clear hS2 hbs
                repeat (first | (refine sreadxP rfl rfl ?_; apply Exists.intro; apply And.intro; (· (intro W hW; first | (go_simp; done) | (go_simp; with_reducible rfl) | (go_simp; rw [if_neg (by omega)]; done) | (go_simp; rw [if_neg (by omega)]; with_reducible rfl))); simp only [Act.put, List.setIfInBounds_toArray, List.set_cons_zero, List.set_cons_succ]) | (refine pskip rfl rfl ?_; simp only [Act.put, List.setIfInBounds_toArray, List.set_cons_zero, List.set_cons_succ]))
                refine ptwo rfl rfl rfl rfl ?_ ?_
                · intro K hK
                  go_simp
                  refine hK.out _ _ (KB.of_below (bsz _ _) (fun k hk => Nat.lt_of_lt_of_le (HBS.out k hk) (by first | exact Nat.le_refl _ | (simp; done) | (simp; omega) | omega))) ?_
                  clear hK K
                  try simp only [Act.put, List.setIfInBounds_toArray, List.set_cons_zero, List.set_cons_succ]
                  refine ptwo rfl rfl rfl rfl ?_ ?_
                  · intro K hK
                    refine wapp (.tmp 65) (.tmp 67) intE rfl W2.heap.size [] rfl HO0.out rfl (iv f) (HR2.out.rd.next (bsz W2 _)) (iv_one f) (by unfold maxLen; omega) (by omega) (by first | exact Nat.le_refl _ | (simp; done) | (simp; omega) | omega) (Nat.zero_add n8) (List.nil_append (iv f)) ?_
                    intro A9 c9' w9 o9 g9
                    refine hK.out _ _ (KB.grown HO0.out g9 HBS.out (by first | exact Nat.le_refl _ | (simp; done) | (simp; omega) | omega)) ?_
                    clear hK K
                    try simp only [Act.put, List.setIfInBounds_toArray, List.set_cons_zero, List.set_cons_succ]
                    have B9 := Below.app (bsz W2 _) HO0.out g9 (by simp)
                    have hs9 := B9.size
                    refine pcall rfl rfl (fun K hK => ?_)
                    go_simp
                    refine hK.out _ _ (KB.of_below (bsz _ _) (fun k hk => Nat.lt_of_lt_of_le (HBS.out k hk) (by first | exact Nat.le_refl _ | (simp; done) | (simp; omega) | omega))) ?_
                    clear hK K
                    try simp only [Act.put, List.setIfInBounds_toArray, List.set_cons_zero, List.set_cons_succ]
                    refine pcall rfl rfl (fun K hK => ?_)
                    refine wapp (.tmp 68) (.tmp 71) intE rfl W2.heap.size (iv f) rfl (o9.alloc _) rfl [.int .i64 eb] (Rd.made w9 [.int .i64 eb] rfl rfl) (by simp [Value.oneCell']) (by unfold maxLen; omega) (by omega) (by simp; omega) rfl rfl ?_
                    intro A7 c7 w7 o7 g7
                    have HO7 := Lib.hid o7
                    have B7 := Below.app (B9.trans ((bsz w9 _).mono hs9)) (o9.alloc _) g7 (by simp; omega)
                    refine hK.out _ _ (KB.grown (o9.alloc _) g7 HBS.out (by simp; omega)) ?_
                    clear hK K
                    try simp only [Act.put, List.setIfInBounds_toArray, List.set_cons_zero, List.set_cons_succ]
                    repeat (first | (refine sreadxP rfl rfl ?_; apply Exists.intro; apply And.intro; (· (intro W hW; first | (go_simp; done) | (go_simp; with_reducible rfl) | (go_simp; rw [if_neg (by omega)]; done) | (go_simp; rw [if_neg (by omega)]; with_reducible rfl))); simp only [Act.put, List.setIfInBounds_toArray, List.set_cons_zero, List.set_cons_succ]) | (refine pskip rfl rfl ?_; simp only [Act.put, List.setIfInBounds_toArray, List.set_cons_zero, List.set_cons_succ]))
                    refine pdone ?_
                    refine last_step rfl (fun K hK => ?_)
                    have X7 : w7.heap[wz.heap.size]? = some (.cells #[.int .i64 p', .slice A8 n8 c8] 29 (0, 0)) := box_next HXZ.out B7
                    have y7 : w7.cell? ⟨wz.heap.size, 1, none⟩ = some (.slice A8 n8 c8) := by rw [Lib.cell_of_heap X7]; rfl
                    have f7 : w7.frozen? ⟨wz.heap.size, 1, none⟩ = false := Lib.frozen_of_heap X7 1
                    go_simp
                    refine hK.out _ _ ?_
                    clear hK K
                    try simp only [Act.put, List.setIfInBounds_toArray, List.set_cons_zero, List.set_cons_succ]
                    have X8 := box_set (i := 1) X7 (.slice A7 (n8 + 1) c7)
                    have BX8 : Below wz.heap.size wz (w7.setCell ⟨wz.heap.size, 1, none⟩ (.slice A7 (n8 + 1) c7)) := Below.setCell (bthen HB2.out B7) (Nat.le_refl _) _
                    have O8 : (w7.setCell ⟨wz.heap.size, 1, none⟩ (.slice A7 (n8 + 1) c7)).ownsRow W2.heap.size 3 1 (.slice A7 (n8 + 1) c7) (n8 + 1) (iv (f ++ [eb])) := by
                      rw [iv_append]
                      exact own_setW o7 _ (fun e => by have := (o7.lt _ e).1; omega)
                    have HB8 := Lib.hid BX8
                    have HO8 := Lib.hid (own_moreT O8 (base' := wq.heap.size) (by omega))
                    have y0 : (w7.setCell ⟨wz.heap.size, 1, none⟩ (.slice A7 (n8 + 1) c7)).cell? ⟨wz.heap.size, 0, none⟩ = some (.int .i64 p') := by rw [Lib.cell_of_heap X8]; rfl
                    have y1 : (w7.setCell ⟨wz.heap.size, 1, none⟩ (.slice A7 (n8 + 1) c7)).cell? ⟨wz.heap.size, 1, none⟩ = some (.slice A7 (n8 + 1) c7) := by rw [Lib.cell_of_heap X8]; rfl
                    clear X7 y7 f7 X8 BX8 O8 B7 o7 g7 HO7 k1 k2
                    clear B9 hs9 o9 g9
                    generalize w7.setCell ⟨wz.heap.size, 1, none⟩ (.slice A7 (n8 + 1) c7) = W8 at *
                    obtain ⟨xs, ox, rx⟩ := HOX.out
                    have OX := Lib.hid ((own_below ox HB8.out).alloc (.cells #[.int .i64 p', .slice A7 (n8 + 1) c7] 29))
                    have RX := Lib.hid ((rx.imp (WtO.next HB8.out)).imp (WtO.next (bsz _ (.cells #[.int .i64 p', .slice A7 (n8 + 1) c7] 29))))
                    have EX := Lib.hid (WtO.next (w0 := wq) (bsz W8 (.cells #[.int .i64 p', .slice A7 (n8 + 1) c7] 29)) (p', f ++ [eb]) _ ⟨A7, n8 + 1, c7, rfl, .inr HO8.out⟩)
                    have BZ := Lib.hid (bthen (bthen HBZ.out HB8.out) (bsz _ (.cells #[.int .i64 p', .slice A7 (n8 + 1) c7] 29)))
                    have hsz := HBZ.out.size
                    have hsz8 := HB8.out.size
                    clear ox rx
                    go_wp2_with (at_builtin; refine wpList_app rfl (.tmp 74) (.tmp 76) wtE rfl wq.heap.size xs rfl OX.out rfl [.int .i64 p', .slice A7 (n8 + 1) c7] (Rd.made _ [.int .i64 p', .slice A7 (n8 + 1) c7] rfl (by simp)) (by simp [Value.oneCell']) (by unfold maxLen; omega) (by omega) (by simp; omega) ?_; intro B2 cb2 wy o2 g2 _; have HO2 := Lib.hid o2; have HRX2 := Lib.hid (RX.out.imp (WtO.grown OX.out g2)); have HEX2 := Lib.hid (WtO.grown OX.out g2 _ _ EX.out); have HB2 := Lib.hid (below_app BZ.out OX.out g2 (by simp; omega)); clear o2 g2)
                    go_roundw
                    case rel => exact ⟨q + 1, B2, cb2, by omega, by go_num, rfl, Lib.hid ⟨_, HO2.out, by rw [HTK.out]; exact HRX2.out.append ⟨_, [], rfl, HEX2.out, rfl⟩⟩, HB2⟩
                    case measure => simp [intOf]; omega
                  · intro K hK
                    go_simp
                    refine hK.out _ _ (KB.of_below (bsz _ _) (fun k hk => Nat.lt_of_lt_of_le (HBS.out k hk) (by first | exact Nat.le_refl _ | (simp; done) | (simp; omega) | omega))) ?_
                    clear hK K
                    try simp only [Act.put, List.setIfInBounds_toArray, List.set_cons_zero, List.set_cons_succ]
                    refine pcall rfl rfl (fun K hK => ?_)
                    refine wapp (.tmp 65) (.tmp 67) intE rfl W2.heap.size [] rfl (HO0.out.alloc _) rfl (iv f) (HR2.out.rd.next (bthen (bsz W2 _) (bsz _ _))) (iv_one f) (by unfold maxLen; omega) (by omega) (by first | exact Nat.le_refl _ | (simp; done) | (simp; omega) | omega) (Nat.zero_add n8) (List.nil_append (iv f)) ?_
                    intro A9 c9' w9 o9 g9
                    refine hK.out _ _ (KB.grown (HO0.out.alloc _) g9 HBS.out (by first | exact Nat.le_refl _ | (simp; done) | (simp; omega) | omega)) ?_
                    clear hK K
                    try simp only [Act.put, List.setIfInBounds_toArray, List.set_cons_zero, List.set_cons_succ]
                    have B9 := Below.app (bthen (bsz W2 _) (bsz _ _)) (HO0.out.alloc _) g9 (by simp; omega)
                    have hs9 := B9.size
                    have hc9 := (g9.block (W2.heap.size + 1) (by simp) (fun e => by simp [Value.ownBlock] at e)).trans (alloc_at (by simp))
                    refine pcall rfl rfl (fun K hK => ?_)
                    refine wapp (.tmp 68) (.tmp 71) intE rfl W2.heap.size (iv f) rfl o9 rfl [.int .i64 eb] (rd_cell1 hc9) (by simp [Value.oneCell']) (by unfold maxLen; omega) (by omega) hs9 rfl rfl ?_
                    intro A7 c7 w7 o7 g7
                    have HO7 := Lib.hid o7
                    have B7 := Below.app B9 o9 g7 hs9
                    refine hK.out _ _ (KB.grown o9 g7 HBS.out hs9) ?_
                    clear hK K
                    try simp only [Act.put, List.setIfInBounds_toArray, List.set_cons_zero, List.set_cons_succ]
                    repeat (first | (refine sreadxP rfl rfl ?_; apply Exists.intro; apply And.intro; (· (intro W hW; first | (go_simp; done) | (go_simp; with_reducible rfl) | (go_simp; rw [if_neg (by omega)]; done) | (go_simp; rw [if_neg (by omega)]; with_reducible rfl))); simp only [Act.put, List.setIfInBounds_toArray, List.set_cons_zero, List.set_cons_succ]) | (refine pskip rfl rfl ?_; simp only [Act.put, List.setIfInBounds_toArray, List.set_cons_zero, List.set_cons_succ]))
                    refine pdone ?_
                    refine last_step rfl (fun K hK => ?_)
                    have X7 : w7.heap[wz.heap.size]? = some (.cells #[.int .i64 p', .slice A8 n8 c8] 29 (0, 0)) := box_next HXZ.out B7
                    have y7 : w7.cell? ⟨wz.heap.size, 1, none⟩ = some (.slice A8 n8 c8) := by rw [Lib.cell_of_heap X7]; rfl
                    have f7 : w7.frozen? ⟨wz.heap.size, 1, none⟩ = false := Lib.frozen_of_heap X7 1
                    go_simp
                    refine hK.out _ _ ?_
                    clear hK K
                    try simp only [Act.put, List.setIfInBounds_toArray, List.set_cons_zero, List.set_cons_succ]
                    have X8 := box_set (i := 1) X7 (.slice A7 (n8 + 1) c7)
                    have BX8 : Below wz.heap.size wz (w7.setCell ⟨wz.heap.size, 1, none⟩ (.slice A7 (n8 + 1) c7)) := Below.setCell (bthen HB2.out B7) (Nat.le_refl _) _
                    have O8 : (w7.setCell ⟨wz.heap.size, 1, none⟩ (.slice A7 (n8 + 1) c7)).ownsRow W2.heap.size 3 1 (.slice A7 (n8 + 1) c7) (n8 + 1) (iv (f ++ [eb])) := by
                      rw [iv_append]
                      exact own_setW o7 _ (fun e => by have := (o7.lt _ e).1; omega)
                    have HB8 := Lib.hid BX8
                    have HO8 := Lib.hid (own_moreT O8 (base' := wq.heap.size) (by omega))
                    have y0 : (w7.setCell ⟨wz.heap.size, 1, none⟩ (.slice A7 (n8 + 1) c7)).cell? ⟨wz.heap.size, 0, none⟩ = some (.int .i64 p') := by rw [Lib.cell_of_heap X8]; rfl
                    have y1 : (w7.setCell ⟨wz.heap.size, 1, none⟩ (.slice A7 (n8 + 1) c7)).cell? ⟨wz.heap.size, 1, none⟩ = some (.slice A7 (n8 + 1) c7) := by rw [Lib.cell_of_heap X8]; rfl
                    clear X7 y7 f7 X8 BX8 O8 B7 o7 g7 HO7 k1 k2
                    clear B9 hs9 o9 g9 hc9
                    generalize w7.setCell ⟨wz.heap.size, 1, none⟩ (.slice A7 (n8 + 1) c7) = W8 at *
                    obtain ⟨xs, ox, rx⟩ := HOX.out
                    have OX := Lib.hid ((own_below ox HB8.out).alloc (.cells #[.int .i64 p', .slice A7 (n8 + 1) c7] 29))
                    have RX := Lib.hid ((rx.imp (WtO.next HB8.out)).imp (WtO.next (bsz _ (.cells #[.int .i64 p', .slice A7 (n8 + 1) c7] 29))))
                    have EX := Lib.hid (WtO.next (w0 := wq) (bsz W8 (.cells #[.int .i64 p', .slice A7 (n8 + 1) c7] 29)) (p', f ++ [eb]) _ ⟨A7, n8 + 1, c7, rfl, .inr HO8.out⟩)
                    have BZ := Lib.hid (bthen (bthen HBZ.out HB8.out) (bsz _ (.cells #[.int .i64 p', .slice A7 (n8 + 1) c7] 29)))
                    have hsz := HBZ.out.size
                    have hsz8 := HB8.out.size
                    clear ox rx
                    go_wp2_with (at_builtin; refine wpList_app rfl (.tmp 74) (.tmp 76) wtE rfl wq.heap.size xs rfl OX.out rfl [.int .i64 p', .slice A7 (n8 + 1) c7] (Rd.made _ [.int .i64 p', .slice A7 (n8 + 1) c7] rfl (by simp)) (by simp [Value.oneCell']) (by unfold maxLen; omega) (by omega) (by simp; omega) ?_; intro B2 cb2 wy o2 g2 _; have HO2 := Lib.hid o2; have HRX2 := Lib.hid (RX.out.imp (WtO.grown OX.out g2)); have HEX2 := Lib.hid (WtO.grown OX.out g2 _ _ EX.out); have HB2 := Lib.hid (below_app BZ.out OX.out g2 (by simp; omega)); clear o2 g2)
                    go_roundw
                    case rel => exact ⟨q + 1, B2, cb2, by omega, by go_num, rfl, Lib.hid ⟨_, HO2.out, by rw [HTK.out]; exact HRX2.out.append ⟨_, [], rfl, HEX2.out, rfl⟩⟩, HB2⟩
                    case measure => simp [intOf]; omega
                · intro K hK
                  go_simp
                  refine hK.out _ _ (KB.of_below (bsz _ _) (fun k hk => Nat.lt_of_lt_of_le (HBS.out k hk) (by first | exact Nat.le_refl _ | (simp; done) | (simp; omega) | omega))) ?_
                  clear hK K
                  try simp only [Act.put, List.setIfInBounds_toArray, List.set_cons_zero, List.set_cons_succ]
                  refine pcall rfl rfl (fun K hK => ?_)
                  go_simp
                  refine hK.out _ _ (KB.of_below (bsz _ _) (fun k hk => Nat.lt_of_lt_of_le (HBS.out k hk) (by first | exact Nat.le_refl _ | (simp; done) | (simp; omega) | omega))) ?_
                  clear hK K
                  try simp only [Act.put, List.setIfInBounds_toArray, List.set_cons_zero, List.set_cons_succ]
                  have HO1 := Lib.hid (own_mtb (W2.alloc (.cells #[.int .i64 eb] 3)) (base := W2.heap.size) (e := 3) (size := 1) (b := W2.heap.size + 1) (by simp) (by omega))
                  refine pcall rfl rfl (fun K hK => ?_)
                  refine wapp (.tmp 65) (.tmp 67) intE rfl W2.heap.size [] rfl HO1.out rfl (iv f) (HR2.out.rd.next (bthen (bsz W2 _) (bsz _ _))) (iv_one f) (by unfold maxLen; omega) (by omega) (by first | exact Nat.le_refl _ | (simp; done) | (simp; omega) | omega) (Nat.zero_add n8) (List.nil_append (iv f)) ?_
                  intro A9 c9' w9 o9 g9
                  refine hK.out _ _ (KB.grown HO1.out g9 HBS.out (by first | exact Nat.le_refl _ | (simp; done) | (simp; omega) | omega)) ?_
                  clear hK K
                  try simp only [Act.put, List.setIfInBounds_toArray, List.set_cons_zero, List.set_cons_succ]
                  have B9 := Below.app (bthen (bsz W2 _) (bsz _ _)) HO1.out g9 (by simp; omega)
                  have hs9 := B9.size
                  have hc9 := (g9.block W2.heap.size (by simp; omega) (fun e => by simp [Value.ownBlock] at e)).trans (alloc_old' (heap_alloc_new W2 (.cells #[.int .i64 eb] 3)))
                  refine pcall rfl rfl (fun K hK => ?_)
                  refine wapp (.tmp 68) (.tmp 71) intE rfl W2.heap.size (iv f) rfl o9 rfl [.int .i64 eb] (rd_cell1 hc9) (by simp [Value.oneCell']) (by unfold maxLen; omega) (by omega) hs9 rfl rfl ?_
                  intro A7 c7 w7 o7 g7
                  have HO7 := Lib.hid o7
                  have B7 := Below.app B9 o9 g7 hs9
                  refine hK.out _ _ (KB.grown o9 g7 HBS.out hs9) ?_
                  clear hK K
                  try simp only [Act.put, List.setIfInBounds_toArray, List.set_cons_zero, List.set_cons_succ]
                  repeat (first | (refine sreadxP rfl rfl ?_; apply Exists.intro; apply And.intro; (· (intro W hW; first | (go_simp; done) | (go_simp; with_reducible rfl) | (go_simp; rw [if_neg (by omega)]; done) | (go_simp; rw [if_neg (by omega)]; with_reducible rfl))); simp only [Act.put, List.setIfInBounds_toArray, List.set_cons_zero, List.set_cons_succ]) | (refine pskip rfl rfl ?_; simp only [Act.put, List.setIfInBounds_toArray, List.set_cons_zero, List.set_cons_succ]))
                  refine pdone ?_
                  refine last_step rfl (fun K hK => ?_)
                  have X7 : w7.heap[wz.heap.size]? = some (.cells #[.int .i64 p', .slice A8 n8 c8] 29 (0, 0)) := box_next HXZ.out B7
                  have y7 : w7.cell? ⟨wz.heap.size, 1, none⟩ = some (.slice A8 n8 c8) := by rw [Lib.cell_of_heap X7]; rfl
                  have f7 : w7.frozen? ⟨wz.heap.size, 1, none⟩ = false := Lib.frozen_of_heap X7 1
                  go_simp
                  refine hK.out _ _ ?_
                  clear hK K
                  try simp only [Act.put, List.setIfInBounds_toArray, List.set_cons_zero, List.set_cons_succ]
                  have X8 := box_set (i := 1) X7 (.slice A7 (n8 + 1) c7)
                  have BX8 : Below wz.heap.size wz (w7.setCell ⟨wz.heap.size, 1, none⟩ (.slice A7 (n8 + 1) c7)) := Below.setCell (bthen HB2.out B7) (Nat.le_refl _) _
                  have O8 : (w7.setCell ⟨wz.heap.size, 1, none⟩ (.slice A7 (n8 + 1) c7)).ownsRow W2.heap.size 3 1 (.slice A7 (n8 + 1) c7) (n8 + 1) (iv (f ++ [eb])) := by
                    rw [iv_append]
                    exact own_setW o7 _ (fun e => by have := (o7.lt _ e).1; omega)
                  have HB8 := Lib.hid BX8
                  have HO8 := Lib.hid (own_moreT O8 (base' := wq.heap.size) (by omega))
                  have y0 : (w7.setCell ⟨wz.heap.size, 1, none⟩ (.slice A7 (n8 + 1) c7)).cell? ⟨wz.heap.size, 0, none⟩ = some (.int .i64 p') := by rw [Lib.cell_of_heap X8]; rfl
                  have y1 : (w7.setCell ⟨wz.heap.size, 1, none⟩ (.slice A7 (n8 + 1) c7)).cell? ⟨wz.heap.size, 1, none⟩ = some (.slice A7 (n8 + 1) c7) := by rw [Lib.cell_of_heap X8]; rfl
                  clear X7 y7 f7 X8 BX8 O8 B7 o7 g7 HO7 k1 k2
                  clear B9 hs9 o9 g9 hc9
                  generalize w7.setCell ⟨wz.heap.size, 1, none⟩ (.slice A7 (n8 + 1) c7) = W8 at *
                  obtain ⟨xs, ox, rx⟩ := HOX.out
                  have OX := Lib.hid ((own_below ox HB8.out).alloc (.cells #[.int .i64 p', .slice A7 (n8 + 1) c7] 29))
                  have RX := Lib.hid ((rx.imp (WtO.next HB8.out)).imp (WtO.next (bsz _ (.cells #[.int .i64 p', .slice A7 (n8 + 1) c7] 29))))
                  have EX := Lib.hid (WtO.next (w0 := wq) (bsz W8 (.cells #[.int .i64 p', .slice A7 (n8 + 1) c7] 29)) (p', f ++ [eb]) _ ⟨A7, n8 + 1, c7, rfl, .inr HO8.out⟩)
                  have BZ := Lib.hid (bthen (bthen HBZ.out HB8.out) (bsz _ (.cells #[.int .i64 p', .slice A7 (n8 + 1) c7] 29)))
                  have hsz := HBZ.out.size
                  have hsz8 := HB8.out.size
                  clear ox rx
                  go_wp2_with (at_builtin; refine wpList_app rfl (.tmp 74) (.tmp 76) wtE rfl wq.heap.size xs rfl OX.out rfl [.int .i64 p', .slice A7 (n8 + 1) c7] (Rd.made _ [.int .i64 p', .slice A7 (n8 + 1) c7] rfl (by simp)) (by simp [Value.oneCell']) (by unfold maxLen; omega) (by omega) (by simp; omega) ?_; intro B2 cb2 wy o2 g2 _; have HO2 := Lib.hid o2; have HRX2 := Lib.hid (RX.out.imp (WtO.grown OX.out g2)); have HEX2 := Lib.hid (WtO.grown OX.out g2 _ _ EX.out); have HB2 := Lib.hid (below_app BZ.out OX.out g2 (by simp; omega)); clear o2 g2)
                  go_roundw
                  case rel => exact ⟨q + 1, B2, cb2, by omega, by go_num, rfl, Lib.hid ⟨_, HO2.out, by rw [HTK.out]; exact HRX2.out.append ⟨_, [], rfl, HEX2.out, rfl⟩⟩, HB2⟩
                  case measure => simp [intOf]; omega
              · have d1 : (p' == ea) = false := by simpa using hpe
                rw [if_neg hpe] at HTK
                obtain ⟨xs, ox, rx⟩ := HOX.out
                have OX := Lib.hid ((own_below ox HBX.out).alloc (.cells #[.int .i64 p', .slice A8 n8 c8] 29))
                have RX := Lib.hid ((rx.imp (WtO.next HBX.out)).imp (WtO.next (bsz _ (.cells #[.int .i64 p', .slice A8 n8 c8] 29))))
                have BZ := Lib.hid (bthen (bthen HBZ.out HBX.out) (bsz _ (.cells #[.int .i64 p', .slice A8 n8 c8] 29)))
                have hsz := HBZ.out.size
                clear ox rx
                go_wp2_with (at_builtin; refine wpList_app rfl (.tmp 74) (.tmp 76) wtE rfl wq.heap.size xs rfl OX.out rfl [.int .i64 p', .slice A8 n8 c8] (Rd.made _ [.int .i64 p', .slice A8 n8 c8] rfl (by simp)) (by simp [Value.oneCell']) (by unfold maxLen; omega) (by omega) (by simp; omega) ?_; intro B2 cb2 wy o2 g2 _; have HO2 := Lib.hid o2; have HRX2 := Lib.hid (RX.out.imp (WtO.grown OX.out g2)); have HB2 := Lib.hid (below_app BZ.out OX.out g2 (by simp; omega)); clear o2 g2)
                go_roundw
                case rel => exact ⟨q + 1, B2, cb2, by omega, by go_num, rfl, Lib.hid ⟨_, HO2.out, by rw [HTK.out]; exact HRX2.out.append ⟨_, [], rfl, ⟨_, _, _, rfl, .inl HR8.out⟩, rfl⟩⟩, HB2⟩
                case measure => simp [intOf]; omega
            · obtain rfl : q = k := by omega
              have hGM : GRow wz B q c9 (moreP ea eb L) := by
                obtain ⟨xs, ox, rx⟩ := HOX.out
                rw [List.take_of_length_le (by rw [HL.out]; exact Nat.le_refl _)] at rx
                exact ⟨⟨xs, Rd.of_own ox, rx.imp (WtO.to HBZ.out)⟩, own_capN ox⟩
              have HGM := Lib.hid hGM
              have hX := box_next HX9.out HBZ.out
              have y0 : wz.cell? ⟨wo.heap.size, 0, none⟩ = some (.int .i64 p1) := by rw [Lib.cell_of_heap hX]; rfl
              clear hX hGM HOX
              go_wp2_with fail
              refine (round_any _ _ _ _ p1 _ HGM.out HMO.out HWF.out).mono ?_; rintro e wf ⟨A9, n9, c9', l9, rfl, o9, r9, b9⟩
              have hl9 := round_len HMO.out r9
              have hln9 : l9.length = n9 := by have := o9.1; simpa using this
              have HLN := Lib.hid hln9
              have hn9 : n9 ≤ 440 := by omega
              have HN9 := Lib.hid (NRow.own o9)
              have HBF := Lib.hid (bthen HBZ.out b9)
              have HIN : Hid (∀ x ∈ r, x ∈ l9) := Lib.hid (fun x hx => (r9.mem x).2 (moreP_round ((HR.out.mem x).1 hx)))
              have HR10 := Lib.hid (HR9.out.next HBF.out)
              have HB10 := Lib.hid (bthen HB9.out HBF.out)
              clear o9 r9 b9 hln9 hl9 HR9 HX9 HE9 HGM y0 HBZ HBF HB9
              go_wp2_with fail
              go_loop [20, 21, 23, 85] (fun _ _ _ iv => ∃ t : Nat, t ≤ i ∧ iv = .int .i64 (t : Int)) (fun _ _ _ iv => i - (intOf iv).toNat)
              case atStart => exact ⟨0, by omega, rfl⟩
              case round =>
                obtain ⟨t, ht, rfl⟩ := hrel
                by_cases hti : t < i
                · have htii : (t : Int) < (i : Int) := by omega
                  have htl : t < r.length := by rw [HRL.out]; exact hti
                  obtain ⟨b6, off6, e6, hbl6, hc6⟩ := HR10.out.at htl
                  subst e6
                  have q6 := hc6 wf (Below.refl _ _)
                  have HME := Lib.hid (HIN.out _ (List.getElem_mem htl))
                  clear hc6
                  generalize r[t] = x at *
                  go_wp2_with fail
                  go_loop [21, 23, 91] (fun fv _ iv => ∃ s : Nat, s ≤ n9 ∧ iv = .int .i64 (s : Int) ∧ fv = .bool (decide (x ∈ l9.take s))) (fun _ _ iv => n9 - (intOf iv).toNat)
                  case atStart => exact ⟨0, by omega, rfl, by simp⟩
                  case round =>
                    obtain ⟨s, hs, rfl, rfl⟩ := hrel
                    by_cases hsn : s < n9
                    · have hsni : (s : Int) < (n9 : Int) := by omega
                      have hsl : s < l9.length := by rw [HLN.out]; exact hsn
                      obtain ⟨b5, off5, rfl, hbl5, hc5⟩ := HN9.out.at hsl
                      have hcell5 := hc5 wf (Below.refl _ _)
                      have hd : (decide (x ∈ l9.take (s + 1))) = (decide (x ∈ l9.take s) || (x == l9[s])) := by
                        rw [List.take_succ_eq_append_getElem hsl, dec_snoc]
                      have HD := Lib.hid hd
                      clear hc5 hd
                      generalize l9[s] = y at *
                      cases hf : decide (x ∈ l9.take s) with
                      | true =>
                        rw [hf] at HD
                        clear hf
                        go_wp2_with fail
                        go_round
                        case rel => exact ⟨s + 1, by omega, by go_num, by rw [HD.out]; rfl⟩
                        case measure => simp [intOf]; omega
                      | false =>
                        rw [hf] at HD
                        clear hf
                        go_wp2_with fail
                        go_round
                        case rel => exact ⟨s + 1, by omega, by go_num, by rw [HD.out]; rfl⟩
                        case measure => simp [intOf]; omega
                    · obtain rfl : s = n9 := by omega
                      rw [List.take_of_length_le (by rw [HLN.out]; exact Nat.le_refl _), decide_eq_true HME.out]
                      go_wp2_with fail
                      go_round
                      case rel => exact ⟨t + 1, by omega, by go_num⟩
                      case measure => simp [intOf]; omega
                · obtain rfl : t = i := by omega
                  go_wp2_with fail
                  go_roundw
                  case rel => exact ⟨j + 1, by omega, by go_num, HB10⟩
                  case measure => simp [intOf]; omega
    · obtain rfl : j = k := by omega
      go_wp2_with fail
      refine (lives_any _).mono ?_; rintro e w7 ⟨rfl, b7⟩
      go_wp2_with fail
      go_ret
      exact ⟨rfl, bthen (bthen HB1.out HB.out) b7⟩
end Go.Proofs.Ytpdfhbgemmpleaa.waitsMore
