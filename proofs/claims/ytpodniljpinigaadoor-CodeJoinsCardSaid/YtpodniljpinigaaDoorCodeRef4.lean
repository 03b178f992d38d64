/- The contract of the reference's Parse (layer 15). -/
import Derived.Test.YtpodniljpinigaaDoorCodeRef3
import Derived.Test.YtpodniljpinigaaDoorCodeParse
import Derived.Test.YtpodniljpinigaaDoorValRParse2
import Derived.Test.YtpodniljpinigaaDoorSchedB
import Derived.Test.YtpodniljpinigaaDoorCodeRef3
namespace Go.Proofs.YtpodniljpinigaaDoor.C
open Go.RowKit O V

/-- What the reference's Parse hands back. -/
def RetRf (s : List UInt8) (e : Ending) : Prop := ∃ x, e = .returned (.tuple #[insV x, .bool (parseRf s).isSome]) ∧ ∀ y, parseRf s = some y → x = y
/-- The reference's Parse behind the name. -/
def ZB (w W : World) : Prop := W.heap[w.heap.size]? = some (.cells #[.int .i64 0, .int .i64 0, .int .i64 0, .int .i64 0, .int .i64 0, .int .i64 0, .int .i64 0, .string ⟨#[]⟩] 29 (0, 0)) ∧ Below w.heap.size w W
theorem ZB.next {w W W' : World} (h : ZB w W) (b : Below W.heap.size W W') : ZB w W' := ⟨box_next h.1 b, bthen h.2 b⟩
theorem rf_none {s : List UInt8} (h : parseRf s = none) (x : Ins) : RetRf s (.returned (.tuple #[insV x, .bool false])) := ⟨x, by rw [h]; rfl, fun y hy => by rw [h] at hy; cases hy⟩
set_option maxHeartbeats 4000000 in
set_option maxRecDepth 100000 in
theorem rparse_c (s : List UInt8) (w : World) (hs : s.length ≤ 1500) : Calls Tryd.prog 13 #[.string ⟨s.toArray⟩] w fun e w' => RetRf s e ∧ Below w.heap.size w w' := by
  have hsz : (ByteArray.mk s.toArray).size = s.length := by simp [ByteArray.size]
  go_enter Tryd.func13, Tryd.ntmps13
  go_wp2_with fail
  have hZ : ZB w (w.alloc (.cells #[.int .i64 0, .int .i64 0, .int .i64 0, .int .i64 0, .int .i64 0, .int .i64 0, .int .i64 0, .string ⟨#[]⟩] 29)) := ⟨heap_alloc_new _ _, (Below.refl _ _).alloc (Nat.le_refl _) _⟩
  generalize (w.alloc (.cells #[.int .i64 0, .int .i64 0, .int .i64 0, .int .i64 0, .int .i64 0, .int .i64 0, .int .i64 0, .string ⟨#[]⟩] 29)) = W1 at *
  have HZ := Lib.hid hZ
  clear hZ
  obtain ⟨n, hn⟩ : ∃ n, cutW s = n := ⟨_, rfl⟩
  have HN := Lib.hid hn
  have hob := op_bounds n
  go_loop [3, 4] (fun _ ov => ∃ j : Nat, 1 ≤ j ∧ j ≤ 18 ∧ ov = .int .i64 (j : Int) ∧ Hid (opOf n = 0 ∨ (j : Int) ≤ opOf n)) (fun _ ov => 18 - (intOf ov).toNat)
  case atStart => exact ⟨1, by omega, by omega, rfl, Lib.hid (by omega)⟩
  case round =>
    obtain ⟨j, hj1, hj2, rfl, HJ⟩ := hrel
    obtain ⟨z0, z1, z2, z3, z4, z5, z6, z7⟩ := cells8c HZ.out.1
    obtain ⟨y0, y1, y2, y3, y4, y5, y6, y7⟩ := frozen8c HZ.out.1
    by_cases hlt : j ≤ 17
    · have hjl : (j : Int) ≤ 17 := by omega
      have hnm := name_op (n := n) hj1 hlt
      go_wp2_with fail
      refine (word_any s 0 _ (by omega) (by omega)).mono ?_; rintro e w2 ⟨rfl, rfl⟩
      rw [List.drop_zero, hn]
      go_wp2_with fail
      refine (rname_any (j : Int) _).mono ?_; rintro e w2 ⟨rfl, rfl⟩
      by_cases hP : opOf n = (j : Int)
      · have hq0 : (nameI (j : Int) == n) = true := by rw [hnm]; simpa using hP
        have hnn : nameI (j : Int) = n := eq_of_beq hq0
        rw [hnn]
        have hq2 : (n == n) = true := by simp
        have HOP := Lib.hid hP
        have HNM := Lib.hid hnn
        have hnl : n.length ≤ 1500 := by rw [← hn]; have := cutW_len s; omega
        have hnsz : (ByteArray.mk n.toArray).size = n.length := by simp [ByteArray.size]
        have hI4 : ZB w (W1.alloc (.cells #[.int .i64 0, .int .i64 0, .int .i64 0, .int .i64 0] 58)) := HZ.out.next ((Below.refl _ _).alloc (Nat.le_refl _) _)
        have A4 : (W1.alloc (.cells #[.int .i64 0, .int .i64 0, .int .i64 0, .int .i64 0] 58)).heap[W1.heap.size]? = some (.cells (pad []) 58 (0, 0)) := heap_alloc_new _ _
        have HI4 := Lib.hid hI4
        have HA4 := Lib.hid A4
        clear hnm hP hq0 hnn hI4 A4 z0 z1 z2 z3 z4 z5 z6 z7 y0 y1 y2 y3 y4 y5 y6 y7
        go_wp2_with fail
        refine (rname_any (j : Int) _).mono ?_; rintro e w2 ⟨rfl, rfl⟩
        rw [HNM.out]
        go_wp2_with fail
        generalize (W1.alloc (.cells #[.int .i64 0, .int .i64 0, .int .i64 0, .int .i64 0] 58)) = W4 at *
        have hga : w.heap.size < W1.heap.size := (Array.getElem?_eq_some_iff.1 HZ.out.1).1
        generalize W1.heap.size = ga at *
        obtain ⟨F, hF⟩ : ∃ F, fieldsI (j : Int) = F := ⟨_, rfl⟩
        have hF4 := fields_le (j : Int)
        rw [hF] at hF4
        have HFF := Lib.hid hF
        clear hF
        have hd0 : s.drop (n.length + 1) = cutR s := by
          have := drop_cut s 0
          rw [List.drop_zero, hn, Nat.zero_add] at this
          exact this
        clear hn
        go_loopw [3, 6, 7] (fun _ av iv wr => ∃ (q a : Nat) (ns : List Int), q ≤ F ∧ iv = .int .i64 (q : Int) ∧ av = .int .i64 (a : Int) ∧ a ≤ 1501 + 1502 * q ∧ ns.length = q ∧ Hid (wordsR F (cutR s) = (wordsR (F - q) (s.drop a)).map (fun p => (ns ++ p.1, p.2))) ∧ Hid (wr.heap[ga]? = some (.cells (pad ns) 58 (0, 0))) ∧ Hid (ZB w wr)) (fun _ _ iv _ => F - (intOf iv).toNat)
        case atStart => exact ⟨0, n.length + 1, [], by omega, rfl, by go_num, by omega, rfl, Lib.hid (by rw [hd0, Nat.sub_zero]; cases wordsR F (cutR s) <;> rfl), HA4, HI4⟩
        case round =>
          obtain ⟨q, a, ns, hq, rfl, rfl, ha, hnsl, HWQ, HA, HI⟩ := hrel
          clear HA4 HI4
          by_cases hlt2 : q < F
          · have hqF : decide ((q : Int) < (F : Int)) = true := by simp; omega
            go_wp2_with fail
            refine (rfields_any (j : Int) _).mono ?_; rintro e w2 ⟨rfl, rfl⟩
            rw [HFF.out]
            go_wp2_with fail
            refine (word_any s a _ (by omega) (by omega)).mono ?_; rintro e w2 ⟨rfl, rfl⟩
            obtain ⟨cw, hcw⟩ : ∃ x, cutW (s.drop a) = x := ⟨_, rfl⟩
            have hcwl : cw.length ≤ 1500 := by rw [← hcw]; have := cutW_len (s.drop a); rw [List.length_drop] at this; omega
            rw [hcw]
            have HCW := Lib.hid hcw
            clear hcw
            go_wp2_with fail
            refine (rparse_any cw _ (by omega)).mono ?_; rintro e w3 ⟨u, rfl, hu, b3⟩
            obtain ⟨k, hk⟩ : ∃ k, F - q = k + 1 := ⟨F - q - 1, by omega⟩
            have hst : wordsR (F - q) (s.drop a) = (match parseV cw with | none => none | some v => if v.k = 1 then (match wordsR k (cutR (s.drop a)) with | none => none | some p => some (v.n :: p.1, p.2)) else none) := by rw [hk, ← HCW.out]; rfl
            have hZ5 := (HI.out.next b3).next ((Below.refl w3.heap.size w3).alloc (Nat.le_refl _) (.cells #[.int .i64 u.k, .int .i64 u.n, .string ⟨u.s.toArray⟩] 27))
            have HZ5 := Lib.hid hZ5
            obtain ⟨z0, z1, z2, z3, z4, z5, z6, z7⟩ := cells8c hZ5.1
            obtain ⟨y0, y1, y2, y3, y4, y5, y6, y7⟩ := frozen8c hZ5.1
            have hrn : wordsR F (cutR s) = none → parseRf s = none := fun h => by
              unfold parseRf; rw [HN.out, HOP.out, if_neg (by omega), HFF.out, h]
            rw [← parse_same] at hu ⊢
            cases hpv : parseV cw with
            | none =>
              have HN0 := Lib.hid (hrn (by rw [HWQ.out, hst, hpv]; rfl))
              clear hu hst hpv hrn hZ5
              unfold vv
              simp only [Option.isSome]
              go_wp2_with fail
              refine bodyPost_ret (v := .tuple #[insV zI, .bool false]) (by simp [results, Tryd.results13, go_sem, insV, insC, zI, zV, z0, z1, z2, z3, z4, z5, z6, z7]) rfl ?_
              refine ⟨rf_none HN0.out zI, ?_⟩
              have := HZ5.out.2
              repeat (first | (with_reducible exact Below.refl _ _) | (with_reducible assumption) | refine Below.setCell ?_ (by simp <;> omega) _ | refine Below.alloc ?_ (by simp <;> omega) _ | refine Below.drew ?_)
            | some v =>
              obtain rfl := hu v hpv
              have hX5 := heap_alloc_new w3 (.cells #[.int .i64 u.k, .int .i64 u.n, .string ⟨u.s.toArray⟩] 27)
              have t0 : (w3.alloc (.cells #[.int .i64 u.k, .int .i64 u.n, .string ⟨u.s.toArray⟩] 27)).cell? ⟨w3.heap.size, 0, none⟩ = some (.int .i64 u.k) := by rw [Lib.cell_of_heap hX5]; rfl
              have t1 : (w3.alloc (.cells #[.int .i64 u.k, .int .i64 u.n, .string ⟨u.s.toArray⟩] 27)).cell? ⟨w3.heap.size, 1, none⟩ = some (.int .i64 u.n) := by rw [Lib.cell_of_heap hX5]; rfl
              by_cases hk1 : u.k = 1
              · have g1 : (u.k != 1) = false := by simpa using hk1
                have g2 : (u.k == 1) = true := by simpa using hk1
                have hA5 := box_next (box_next HA.out b3) ((Below.refl w3.heap.size w3).alloc (Nat.le_refl _) (.cells #[.int .i64 u.k, .int .i64 u.n, .string ⟨u.s.toArray⟩] 27))
                obtain ⟨cv, hcv⟩ : ∃ cv, (w3.alloc (.cells #[.int .i64 u.k, .int .i64 u.n, .string ⟨u.s.toArray⟩] 27)).cell? ⟨ga, q, none⟩ = some cv := by
                  rw [Lib.cell_of_heap hA5]
                  exact ⟨_, Array.getElem?_eq_getElem (show q < 4 by omega)⟩
                have hfz := Lib.frozen_of_heap hA5 q
                have HA5 := Lib.hid hA5
                have hdc := drop_cut s a
                rw [HCW.out] at hdc
                have HWQ2 : Hid (wordsR F (cutR s) = (wordsR (F - (q + 1)) (s.drop (a + (cw.length + 1)))).map (fun p => ((ns ++ [u.n]) ++ p.1, p.2))) := Lib.hid (by
                  rw [HWQ.out, hst, hpv, show F - (q + 1) = k by omega, hdc]
                  simp only
                  rw [if_pos hk1]
                  cases wordsR k (cutR (s.drop a)) with
                  | none => rfl
                  | some p => simp)
                have hstp := Lib.hid (pad_step ns u.n (by omega))
                have hcsz : (ByteArray.mk cw.toArray).size = cw.length := by simp [ByteArray.size]
                have hqi : (q : Int) < 4 := by omega
                have hqn : q < 4 := by omega
                clear hu hst hpv hrn hZ5 hk1 hX5 hdc hk hA5
                unfold vv
                simp only [Option.isSome]
                go_wp2_with fail
                go_roundw
                case rel =>
                  refine ⟨q + 1, a + (cw.length + 1), ns ++ [u.n], by omega, by go_num, congrArg (Value.int .i64) (by omega), by omega, by simp; omega, HWQ2, Lib.hid ?_, Lib.hid ⟨?_, ?_⟩⟩
                  · rw [heap_setC HA5.out, hstp.out, hnsl]
                  · exact (Below.heap_setCell _ _ _ _ (show w.heap.size ≠ ga by omega)).trans HZ5.out.1
                  · exact HZ5.out.2.setCell (show w.heap.size ≤ ga by omega) _
                case measure => simp [intOf]; omega
              · have g1 : (u.k != 1) = true := by simpa using hk1
                have g2 : (u.k == 1) = false := by simpa using hk1
                have HN0 := Lib.hid (hrn (by rw [HWQ.out, hst, hpv]; simp only; rw [if_neg hk1]; rfl))
                clear hu hst hpv hrn hZ5 hk1 hX5
                unfold vv
                simp only [Option.isSome]
                go_wp2_with fail
                refine bodyPost_ret (v := .tuple #[insV zI, .bool false]) (by simp [results, Tryd.results13, go_sem, insV, insC, zI, zV, z0, z1, z2, z3, z4, z5, z6, z7]) rfl ?_
                refine ⟨rf_none HN0.out zI, ?_⟩
                have := HZ5.out.2
                repeat (first | (with_reducible exact Below.refl _ _) | (with_reducible assumption) | refine Below.setCell ?_ (by simp <;> omega) _ | refine Below.alloc ?_ (by simp <;> omega) _ | refine Below.drew ?_)
          · obtain rfl : q = F := by omega
            have hWF : wordsR q (cutR s) = some (ns, s.drop a) := by
              rw [HWQ.out, Nat.sub_self]; simp [wordsR]
            have hns : ns = (words q (cutR s)).1.map num := congrArg Prod.fst (wordsR_some _ _ _ hWF)
            have hnf : ∀ m ∈ ns, fit m := by
              intro m hm; rw [hns, List.mem_map] at hm; obtain ⟨t, _, rfl⟩ := hm; exact num_fit t
            have hnl : ns.length = fieldsI (j : Int) := by rw [hnsl, HFF.out]
            have htd := Lib.hid (fun (v : Val) (h0 : (j : Int) ≠ 1 → v = zV) (h1 : (j : Int) = 1 → goodV v) => tidy_mk (v := v) (show 1 ≤ (j : Int) by omega) (by omega) hnl hnf h0 h1)
            have HPM : Hid (parseRf s = if (j : Int) = 1 then (match parseV (s.drop a) with | none => none | some v => okI s (mk (j : Int) ns v)) else okI s (mk (j : Int) ns zV)) := Lib.hid (by
              unfold parseRf; rw [HN.out, HOP.out, if_neg (by omega), HFF.out, hWF]; rfl)
            clear hns hnl hnf hWF HWQ
            obtain ⟨N0, hN0⟩ : ∃ x, ns.getD 0 0 = x := ⟨_, rfl⟩
            obtain ⟨N1, hN1⟩ : ∃ x, ns.getD 1 0 = x := ⟨_, rfl⟩
            obtain ⟨N2, hN2⟩ : ∃ x, ns.getD 2 0 = x := ⟨_, rfl⟩
            obtain ⟨N3, hN3⟩ : ∃ x, ns.getD 3 0 = x := ⟨_, rfl⟩
            have HMK : Hid (∀ v, mk (j : Int) ns v = ⟨(j : Int), N0, N1, N2, N3, v⟩) := Lib.hid (fun v => by unfold mk; rw [hN0, hN1, hN2, hN3])
            have HA2 : wr.heap[ga]? = some (.cells #[.int .i64 N0, .int .i64 N1, .int .i64 N2, .int .i64 N3] 58 (0, 0)) := by
              have := HA.out; unfold pad at this; rwa [hN0, hN1, hN2, hN3] at this
            clear hN0 hN1 hN2 hN3
            have q0 : wr.cell? ⟨ga, 0, none⟩ = some (.int .i64 N0) := by rw [Lib.cell_of_heap HA2]; rfl
            have q1 : wr.cell? ⟨ga, 1, none⟩ = some (.int .i64 N1) := by rw [Lib.cell_of_heap HA2]; rfl
            have q2 : wr.cell? ⟨ga, 2, none⟩ = some (.int .i64 N2) := by rw [Lib.cell_of_heap HA2]; rfl
            have q3 : wr.cell? ⟨ga, 3, none⟩ = some (.int .i64 N3) := by rw [Lib.cell_of_heap HA2]; rfl
            have hzl : w.heap.size < wr.heap.size := (Array.getElem?_eq_some_iff.1 HI.out.1).1
            have hI5 : IB w wr.heap.size ⟨(j : Int), N0, N1, N2, N3, zV⟩ (wr.alloc (.cells #[.int .i64 (j : Int), .int .i64 N0, .int .i64 N1, .int .i64 N2, .int .i64 N3, .int .i64 0, .int .i64 0, .string ⟨#[]⟩] 29)) :=
              ⟨box_next HI.out.1 ((Below.refl _ _).alloc (Nat.le_refl _) _), heap_alloc_new _ _, bthen HI.out.2 ((Below.refl _ _).alloc (Nat.le_refl _) _), hzl⟩
            have HI5 := Lib.hid hI5
            obtain ⟨x0, x1, x2, x3, x4, x5, x6, x7⟩ := cells8c hI5.t
            obtain ⟨f0, f1, f2, f3, f4, f5, f6, f7⟩ := frozen8c hI5.t
            obtain ⟨z0, z1, z2, z3, z4, z5, z6, z7⟩ := cells8c hI5.z
            obtain ⟨y0, y1, y2, y3, y4, y5, y6, y7⟩ := frozen8c hI5.z
            clear hI5 HA HA2 hzl
            have hqF : decide ((q : Int) < (q : Int)) = false := by simp
            go_wp2_with fail
            refine (rfields_any (j : Int) _).mono ?_; rintro e w2 ⟨rfl, rfl⟩
            rw [HFF.out]
            by_cases h1 : (j : Int) = 1
            · have g1 : ((j : Int) == 1) = true := by simpa using h1
              have HP2 : Hid (parseRf s = match parseV (s.drop a) with | none => none | some v => okI s (mk (j : Int) ns v)) := Lib.hid (HPM.out.trans (if_pos h1))
              by_cases hal : (a : Int) > (s.length : Int)
              · have d1 : decide ((a : Int) > (s.length : Int)) = true := by simpa using hal
                have HN0 : Hid (parseRf s = none) := Lib.hid (by rw [HP2.out, List.drop_eq_nil_of_le (by omega), parse_nil])
                clear h1
                go_wp2_with fail
                refine bodyPost_ret (v := .tuple #[insV zI, .bool false]) (by simp [results, Tryd.results13, go_sem, insV, insC, zI, zV, z0, z1, z2, z3, z4, z5, z6, z7]) rfl ?_
                refine ⟨rf_none HN0.out zI, ?_⟩
                have := HI5.out.b
                repeat (first | (with_reducible exact Below.refl _ _) | (with_reducible assumption) | refine Below.setCell ?_ (by simp <;> omega) _ | refine Below.alloc ?_ (by simp <;> omega) _ | refine Below.drew ?_)
              · have d1 : decide ((a : Int) > (s.length : Int)) = false := by simpa using hal
                have hcut := cut_at s a (s.length - a) s.length (by omega)
                rw [List.take_of_length_le (by simp)] at hcut
                have HP1 := Lib.hid h1
                clear h1
                go_wp2_with fail
                refine (rparse_any (s.drop a) _ (by simp; omega)).mono ?_; rintro e w5 ⟨u, rfl, hu, b5⟩
                rw [← parse_same] at hu ⊢
                have hI6 := HI5.out.next b5
                have hI7 := hI6.next ((Below.refl _ _).alloc (Nat.le_refl _) (.cells #[.int .i64 u.k, .int .i64 u.n, .string ⟨u.s.toArray⟩] 27))
                have HI7 := Lib.hid hI7
                clear x0 x1 x2 x3 x4 x5 x6 x7 f0 f1 f2 f3 f4 f5 f6 f7 z0 z1 z2 z3 z4 z5 z6 z7 y0 y1 y2 y3 y4 y5 y6 y7 q0 q1 q2 q3 hI6
                obtain ⟨x0, x1, x2, x3, x4, x5, x6, x7⟩ := cells8c hI7.t
                obtain ⟨f0, f1, f2, f3, f4, f5, f6, f7⟩ := frozen8c hI7.t
                obtain ⟨z0, z1, z2, z3, z4, z5, z6, z7⟩ := cells8c hI7.z
                obtain ⟨y0, y1, y2, y3, y4, y5, y6, y7⟩ := frozen8c hI7.z
                cases hpv : parseV (s.drop a) with
                | none =>
                  have HN0 : Hid (parseRf s = none) := Lib.hid (by rw [HP2.out, hpv])
                  clear hu hpv hI7 hcut
                  unfold vv
                  simp only [Option.isSome]
                  go_wp2_with fail
                  refine bodyPost_ret (v := .tuple #[insV zI, .bool false]) (by simp [results, Tryd.results13, go_sem, insV, insC, zI, zV, z0, z1, z2, z3, z4, z5, z6, z7]) rfl ?_
                  refine ⟨rf_none HN0.out zI, ?_⟩
                  have := HI7.out.b
                  repeat (first | (with_reducible exact Below.refl _ _) | (with_reducible assumption) | refine Below.setCell ?_ (by simp <;> omega) _ | refine Below.alloc ?_ (by simp <;> omega) _ | refine Below.drew ?_)
                | some v =>
                  obtain rfl := hu v hpv
                  have HPV : Hid (parseRf s = okI s (mk (j : Int) ns u)) := Lib.hid (by rw [HP2.out, hpv])
                  have hgv := (parseV_iff.1 hpv).1
                  have hT := htd.out u (fun h => absurd HP1.out h) (fun _ => hgv)
                  rw [HMK.out] at hT
                  have HGV := Lib.hid hgv
                  have HTD := Lib.hid hT
                  have hvs := good_len hgv
                  have hX6 := heap_alloc_new w5 (.cells #[.int .i64 u.k, .int .i64 u.n, .string ⟨u.s.toArray⟩] 27)
                  have k0 : (w5.alloc (.cells #[.int .i64 u.k, .int .i64 u.n, .string ⟨u.s.toArray⟩] 27)).cell? ⟨w5.heap.size, 0, none⟩ = some (.int .i64 u.k) := by rw [Lib.cell_of_heap hX6]; rfl
                  have k1 : (w5.alloc (.cells #[.int .i64 u.k, .int .i64 u.n, .string ⟨u.s.toArray⟩] 27)).cell? ⟨w5.heap.size, 1, none⟩ = some (.int .i64 u.n) := by rw [Lib.cell_of_heap hX6]; rfl
                  have k2 : (w5.alloc (.cells #[.int .i64 u.k, .int .i64 u.n, .string ⟨u.s.toArray⟩] 27)).cell? ⟨w5.heap.size, 2, none⟩ = some (.string ⟨u.s.toArray⟩) := by rw [Lib.cell_of_heap hX6]; rfl
                  clear hu hpv hI7 hcut hgv hT hX6
                  unfold vv
                  simp only [Option.isSome]
                  go_wp2_with fail
                  have hI8 := HI7.out.setV u
                  generalize (((w5.alloc (.cells #[.int .i64 u.k, .int .i64 u.n, .string ⟨u.s.toArray⟩] 27)).setCell ⟨wr.heap.size, 5, none⟩ (.int .i64 u.k)).setCell ⟨wr.heap.size, 6, none⟩ (.int .i64 u.n)).setCell ⟨wr.heap.size, 7, none⟩ (.string ⟨u.s.toArray⟩) = W8 at *
                  clear x0 x1 x2 x3 x4 x5 x6 x7 f0 f1 f2 f3 f4 f5 f6 f7 z0 z1 z2 z3 z4 z5 z6 z7 y0 y1 y2 y3 y4 y5 y6 y7 k0 k1 k2
                  have HI8 : Hid (IB w wr.heap.size ⟨(j : Int), N0, N1, N2, N3, u⟩ W8) := Lib.hid hI8
                  clear hI8
                  have hI8 := HI8.out
                  have hgW : wr.heap.size < W8.heap.size := (Array.getElem?_eq_some_iff.1 hI8.t).1
                  have hgn : w.heap.size ≠ wr.heap.size := by have := hI8.g; omega
                  clear hI8
                  go_wp2_with fail
                  refine wp_region_schedB [wr.heap.size] [(0, true), (1, true), (3, true), (2, false), (4, true), (5, false), (6, true)] (by kernel_rfl) (by kernel_rfl) (fun _ _ d _ _ h => by cases d <;> exact h) ?_
                  refine bwith (fun W hW => (cells8c (hW.one HI8.out.t))) (fun q => ?_)
                  repeat (first | (refine sreadxB rfl rfl ?_; apply Exists.intro; apply And.intro; (· (intro W hW; first | (go_simp; done) | (go_simp; with_reducible rfl) | (go_simp; rw [if_neg (by omega)]; done) | (go_simp; rw [if_neg (by omega)]; with_reducible rfl))); simp only [Act.put, List.setIfInBounds_toArray, List.set_cons_zero, List.set_cons_succ]) | (refine bskip rfl rfl ?_; simp only [Act.put, List.setIfInBounds_toArray, List.set_cons_zero, List.set_cons_succ]))
                  refine bcall rfl rfl (fun K hK => ?_)
                  go_simp
                  refine (rcprint_any ⟨(j : Int), N0, N1, N2, N3, u⟩ _ hvs HTD.out.fit HGV.out.2).mono ?_; rintro e w9 ⟨rfl, b9⟩
                  go_wp2_with fail
                  refine hK.out _ _ (by exact KB.of_below b9 (fun k hk => by simp at hk; subst hk; exact hgW)) ?_
                  clear hK K
                  try simp only [Act.put, List.setIfInBounds_toArray, List.set_cons_zero, List.set_cons_succ]
                  have hI9 := HI8.out.next ((Below.refl _ _).drew.trans b9)
                  have HI9 := Lib.hid hI9
                  obtain ⟨x0, x1, x2, x3, x4, x5, x6, x7⟩ := cells8c hI9.t
                  obtain ⟨f0, f1, f2, f3, f4, f5, f6, f7⟩ := frozen8c hI9.t
                  obtain ⟨z0, z1, z2, z3, z4, z5, z6, z7⟩ := cells8c hI9.z
                  obtain ⟨y0, y1, y2, y3, y4, y5, y6, y7⟩ := frozen8c hI9.z
                  clear hI9 b9 q
                  obtain ⟨pl, hpl⟩ : ∃ pl, printI ⟨(j : Int), N0, N1, N2, N3, u⟩ = pl := ⟨_, rfl⟩
                  have hRF : parseRf s = if pl = s then some ⟨(j : Int), N0, N1, N2, N3, u⟩ else none := by rw [HPV.out, HMK.out, ← hpl]; rfl
                  have HRF := Lib.hid hRF
                  rw [hpl]
                  clear hpl hRF
                  repeat (first | (refine sreadxB rfl rfl ?_; apply Exists.intro; apply And.intro; (· (intro W hW; first | (go_simp; done) | (go_simp; with_reducible rfl) | (go_simp; rw [if_neg (by omega)]; done) | (go_simp; rw [if_neg (by omega)]; with_reducible rfl))); simp only [Act.put, List.setIfInBounds_toArray, List.set_cons_zero, List.set_cons_succ]) | (refine bskip rfl rfl ?_; simp only [Act.put, List.setIfInBounds_toArray, List.set_cons_zero, List.set_cons_succ]))
                  refine bcall rfl rfl (fun K hK => ?_)
                  go_simp
                  refine hK.out _ _ (fun k hk => ?_) ?_
                  · simp at hk; subst hk
                    exact (Below.heap_setCell _ _ _ _ hgn.symm).trans ((Below.heap_setCell _ _ _ _ hgn.symm).trans ((Below.heap_setCell _ _ _ _ hgn.symm).trans ((Below.heap_setCell _ _ _ _ hgn.symm).trans ((Below.heap_setCell _ _ _ _ hgn.symm).trans ((Below.heap_setCell _ _ _ _ hgn.symm).trans ((Below.heap_setCell _ _ _ _ hgn.symm).trans (Below.heap_setCell _ _ _ _ hgn.symm)))))))
                  clear hK K
                  try simp only [Act.put, List.setIfInBounds_toArray, List.set_cons_zero, List.set_cons_succ]
                  repeat (first | (refine sreadxB rfl rfl ?_; apply Exists.intro; apply And.intro; (· (intro W hW; first | (go_simp; done) | (go_simp; with_reducible rfl) | (go_simp; rw [if_neg (by omega)]; done) | (go_simp; rw [if_neg (by omega)]; with_reducible rfl))); simp only [Act.put, List.setIfInBounds_toArray, List.set_cons_zero, List.set_cons_succ]) | (refine bskip rfl rfl ?_; simp only [Act.put, List.setIfInBounds_toArray, List.set_cons_zero, List.set_cons_succ]))
                  refine bdone ?_
                  go_wp2_with fail
                  refine bodyPost_ret (v := .tuple #[insV ⟨(j : Int), N0, N1, N2, N3, u⟩, .bool (pl == s)]) (by simp [results, Tryd.results13, go_sem, insV, insC, z0, z1, z2, z3, z4, z5, z6, z7]) rfl ?_
                  refine ⟨⟨⟨(j : Int), N0, N1, N2, N3, u⟩, ?_, ?_⟩, ?_⟩
                  · rw [HRF.out]
                    by_cases hq : pl = s
                    · rw [if_pos hq, hq]; simp
                    · rw [if_neg hq, beq_eq_false_iff_ne.2 hq]; rfl
                  · intro y hy
                    rw [HRF.out] at hy
                    split at hy
                    · injection hy
                    · cases hy
                  · have := HI9.out.b
                    repeat (first | (with_reducible exact Below.refl _ _) | (with_reducible assumption) | refine Below.setCell ?_ (by simp <;> omega) _ | refine Below.alloc ?_ (by simp <;> omega) _ | refine Below.drew ?_)
            · have g1 : ((j : Int) == 1) = false := by simpa using h1
              have HPV : Hid (parseRf s = okI s (mk (j : Int) ns zV)) := Lib.hid (HPM.out.trans (if_neg h1))
              have hT := htd.out zV (fun _ => rfl) (fun h => absurd h h1)
              rw [HMK.out] at hT
              have HTD := Lib.hid hT
              clear h1 hT
              have hvs : zV.s.length ≤ 1000 := by decide
              go_wp2_with fail
              have HI8 : Hid (IB w wr.heap.size ⟨(j : Int), N0, N1, N2, N3, zV⟩ _) := HI5
              generalize (wr.alloc (.cells #[.int .i64 (j : Int), .int .i64 N0, .int .i64 N1, .int .i64 N2, .int .i64 N3, .int .i64 0, .int .i64 0, .string ⟨#[]⟩] 29)) = W8 at *
              clear x0 x1 x2 x3 x4 x5 x6 x7 f0 f1 f2 f3 f4 f5 f6 f7 z0 z1 z2 z3 z4 z5 z6 z7 y0 y1 y2 y3 y4 y5 y6 y7 q0 q1 q2 q3
              have hI8 := HI8.out
              have hgW : wr.heap.size < W8.heap.size := (Array.getElem?_eq_some_iff.1 hI8.t).1
              have hgn : w.heap.size ≠ wr.heap.size := by have := hI8.g; omega
              clear hI8
              go_wp2_with fail
              refine wp_region_schedB [wr.heap.size] [(0, true), (1, true), (3, true), (2, false), (4, true), (5, false), (6, true)] (by kernel_rfl) (by kernel_rfl) (fun _ _ d _ _ h => by cases d <;> exact h) ?_
              refine bwith (fun W hW => (cells8c (hW.one HI8.out.t))) (fun q => ?_)
              repeat (first | (refine sreadxB rfl rfl ?_; apply Exists.intro; apply And.intro; (· (intro W hW; first | (go_simp; done) | (go_simp; with_reducible rfl) | (go_simp; rw [if_neg (by omega)]; done) | (go_simp; rw [if_neg (by omega)]; with_reducible rfl))); simp only [Act.put, List.setIfInBounds_toArray, List.set_cons_zero, List.set_cons_succ]) | (refine bskip rfl rfl ?_; simp only [Act.put, List.setIfInBounds_toArray, List.set_cons_zero, List.set_cons_succ]))
              refine bcall rfl rfl (fun K hK => ?_)
              go_simp
              refine (rcprint_any ⟨(j : Int), N0, N1, N2, N3, zV⟩ _ hvs HTD.out.fit (show fit 0 from ⟨by decide, by decide⟩)).mono ?_; rintro e w9 ⟨rfl, b9⟩
              go_wp2_with fail
              refine hK.out _ _ (by exact KB.of_below b9 (fun k hk => by simp at hk; subst hk; exact hgW)) ?_
              clear hK K
              try simp only [Act.put, List.setIfInBounds_toArray, List.set_cons_zero, List.set_cons_succ]
              have hI9 := HI8.out.next ((Below.refl _ _).drew.trans b9)
              have HI9 := Lib.hid hI9
              obtain ⟨x0, x1, x2, x3, x4, x5, x6, x7⟩ := cells8c hI9.t
              obtain ⟨f0, f1, f2, f3, f4, f5, f6, f7⟩ := frozen8c hI9.t
              obtain ⟨z0, z1, z2, z3, z4, z5, z6, z7⟩ := cells8c hI9.z
              obtain ⟨y0, y1, y2, y3, y4, y5, y6, y7⟩ := frozen8c hI9.z
              clear hI9 b9 q
              obtain ⟨pl, hpl⟩ : ∃ pl, printI ⟨(j : Int), N0, N1, N2, N3, zV⟩ = pl := ⟨_, rfl⟩
              have hRF : parseRf s = if pl = s then some ⟨(j : Int), N0, N1, N2, N3, zV⟩ else none := by rw [HPV.out, HMK.out, ← hpl]; rfl
              have HRF := Lib.hid hRF
              rw [hpl]
              clear hpl hRF
              repeat (first | (refine sreadxB rfl rfl ?_; apply Exists.intro; apply And.intro; (· (intro W hW; first | (go_simp; done) | (go_simp; with_reducible rfl) | (go_simp; rw [if_neg (by omega)]; done) | (go_simp; rw [if_neg (by omega)]; with_reducible rfl))); simp only [Act.put, List.setIfInBounds_toArray, List.set_cons_zero, List.set_cons_succ]) | (refine bskip rfl rfl ?_; simp only [Act.put, List.setIfInBounds_toArray, List.set_cons_zero, List.set_cons_succ]))
              refine bcall rfl rfl (fun K hK => ?_)
              go_simp
              refine hK.out _ _ (fun k hk => ?_) ?_
              · simp at hk; subst hk
                exact (Below.heap_setCell _ _ _ _ hgn.symm).trans ((Below.heap_setCell _ _ _ _ hgn.symm).trans ((Below.heap_setCell _ _ _ _ hgn.symm).trans ((Below.heap_setCell _ _ _ _ hgn.symm).trans ((Below.heap_setCell _ _ _ _ hgn.symm).trans ((Below.heap_setCell _ _ _ _ hgn.symm).trans ((Below.heap_setCell _ _ _ _ hgn.symm).trans (Below.heap_setCell _ _ _ _ hgn.symm)))))))
              clear hK K
              try simp only [Act.put, List.setIfInBounds_toArray, List.set_cons_zero, List.set_cons_succ]
              repeat (first | (refine sreadxB rfl rfl ?_; apply Exists.intro; apply And.intro; (· (intro W hW; first | (go_simp; done) | (go_simp; with_reducible rfl) | (go_simp; rw [if_neg (by omega)]; done) | (go_simp; rw [if_neg (by omega)]; with_reducible rfl))); simp only [Act.put, List.setIfInBounds_toArray, List.set_cons_zero, List.set_cons_succ]) | (refine bskip rfl rfl ?_; simp only [Act.put, List.setIfInBounds_toArray, List.set_cons_zero, List.set_cons_succ]))
              refine bdone ?_
              go_wp2_with fail
              refine bodyPost_ret (v := .tuple #[insV ⟨(j : Int), N0, N1, N2, N3, zV⟩, .bool (pl == s)]) (by simp [results, Tryd.results13, go_sem, insV, insC, z0, z1, z2, z3, z4, z5, z6, z7]) rfl ?_
              refine ⟨⟨⟨(j : Int), N0, N1, N2, N3, zV⟩, ?_, ?_⟩, ?_⟩
              · rw [HRF.out]
                by_cases hq : pl = s
                · rw [if_pos hq, hq]; simp
                · rw [if_neg hq, beq_eq_false_iff_ne.2 hq]; rfl
              · intro y hy
                rw [HRF.out] at hy
                split at hy
                · injection hy
                · cases hy
              · have := HI9.out.b
                repeat (first | (with_reducible exact Below.refl _ _) | (with_reducible assumption) | refine Below.setCell ?_ (by simp <;> omega) _ | refine Below.alloc ?_ (by simp <;> omega) _ | refine Below.drew ?_)
      · have hq : (nameI (j : Int) == n) = false := by rw [hnm]; simpa using hP
        have hq2 : (n == nameI (j : Int)) = false := by
          cases h : (n == nameI (j : Int))
          · rfl
          · have h2 := eq_of_beq h; rw [← h2] at hq; simp at hq
        have HP := Lib.hid hP
        clear hnm hP
        generalize nameI (j : Int) = nm at *
        go_wp2_with fail
        go_round
        case rel => exact ⟨j + 1, by omega, by omega, by go_num, Lib.hid (by have := HJ.out; have := HP.out; omega)⟩
        case measure => simp [intOf]; omega
    · obtain rfl : j = 18 := by omega
      have HN0 : Hid (parseRf s = none) := Lib.hid (by
        unfold parseRf; rw [hn, if_pos (by have := HJ.out; omega)])
      go_wp2_with fail
      refine bodyPost_ret (v := .tuple #[insV zI, .bool false]) (by simp [results, Tryd.results13, go_sem, insV, insC, zI, zV, z0, z1, z2, z3, z4, z5, z6, z7]) rfl ?_
      refine ⟨rf_none HN0.out zI, ?_⟩
      have := HZ.out.2
      repeat (first | (with_reducible exact Below.refl _ _) | (with_reducible assumption) | refine Below.setCell ?_ (by simp <;> omega) _ | refine Below.alloc ?_ (by simp <;> omega) _ | refine Below.drew ?_)
end Go.Proofs.YtpodniljpinigaaDoor.C
