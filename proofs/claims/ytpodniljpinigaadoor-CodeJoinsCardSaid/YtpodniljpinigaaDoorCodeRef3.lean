/- The contract of the reference's Print (layer 15). -/
import Derived.Test.YtpodniljpinigaaDoorCodeRef2
import Derived.Test.YtpodniljpinigaaDoorCodePrint
import Derived.Test.YtpodniljpinigaaDoorValRParse
namespace Go.Proofs.YtpodniljpinigaaDoor.C
open Go.RowKit O V

theorem jn_snoc (x : List UInt8) (l : List (List UInt8)) (d : List UInt8) : jn (x :: (l ++ [d])) = jn (x :: l) ++ ([32] ++ d) := by simp [jn]
theorem cat3 (a b : List UInt8) : ByteArray.mk a.toArray ++ (ByteArray.mk #[32] ++ ByteArray.mk b.toArray) = ⟨(a ++ ([32] ++ b)).toArray⟩ := by
  have h1 : ByteArray.mk #[32] = ⟨([32] : List UInt8).toArray⟩ := rfl
  rw [h1, ba_append, ba_append]
set_option maxHeartbeats 4000000 in
set_option maxRecDepth 100000 in
theorem rcprint_any (x : Ins) (w : World) (hs : x.v.s.length ≤ 1000) (hf : ∀ n ∈ fl x, fit n) (hv : fit x.v.n) : Calls Tryd.prog 32 #[insV x] w fun e w' => e = .returned (.string ⟨(printI x).toArray⟩) ∧ Below w.heap.size w w' := by
  have hpl := words_lens x hs hf hv
  obtain ⟨op, a, b, c, d, ⟨k, m, s⟩⟩ := x
  have HF := Lib.hid hf
  have HV := Lib.hid hv
  have HS := Lib.hid hs
  have HPL := Lib.hid hpl
  clear hf hv hs hpl
  unfold insV insC
  have X1 : (w.alloc (.cells #[.int .i64 op, .int .i64 a, .int .i64 b, .int .i64 c, .int .i64 d, .int .i64 k, .int .i64 m, .string ⟨s.toArray⟩] 29)).heap[w.heap.size]? = some (.cells #[.int .i64 op, .int .i64 a, .int .i64 b, .int .i64 c, .int .i64 d, .int .i64 k, .int .i64 m, .string ⟨s.toArray⟩] 29 (0, 0)) := heap_alloc_new _ _
  obtain ⟨x0, x1, x2, x3, x4, x5, x6, x7⟩ := cells8c X1
  obtain ⟨N, hN⟩ : ∃ N, nameI op = N := ⟨_, rfl⟩
  have HN := Lib.hid hN
  go_enter Tryd.func32, Tryd.ntmps32
  go_wp2_with fail
  refine (rname_any op _).mono ?_; rintro e w1 ⟨rfl, rfl⟩
  rw [hN]
  clear hN
  go_wp2_with fail
  have X2 := box_next X1 ((Below.refl _ _).alloc (Nat.le_refl _) (.cells #[.int .i64 a, .int .i64 b, .int .i64 c, .int .i64 d] 3))
  have R2 : ((w.alloc (.cells #[.int .i64 op, .int .i64 a, .int .i64 b, .int .i64 c, .int .i64 d, .int .i64 k, .int .i64 m, .string ⟨s.toArray⟩] 29)).alloc (.cells #[.int .i64 a, .int .i64 b, .int .i64 c, .int .i64 d] 3)).heap[w.heap.size + 1]? = some (.cells #[.int .i64 a, .int .i64 b, .int .i64 c, .int .i64 d] 3 (0, 0)) := alloc_at (by simp)
  have B2 : Below w.heap.size w ((w.alloc (.cells #[.int .i64 op, .int .i64 a, .int .i64 b, .int .i64 c, .int .i64 d, .int .i64 k, .int .i64 m, .string ⟨s.toArray⟩] 29)).alloc (.cells #[.int .i64 a, .int .i64 b, .int .i64 c, .int .i64 d] 3)) := ((Below.refl _ _).alloc (Nat.le_refl _) _).alloc (by simp) _
  clear x0 x1 x2 x3 x4 x5 x6 x7 X1
  have HX := Lib.hid X2
  have HR := Lib.hid R2
  clear X2 R2
  generalize ((w.alloc (.cells #[.int .i64 op, .int .i64 a, .int .i64 b, .int .i64 c, .int .i64 d, .int .i64 k, .int .i64 m, .string ⟨s.toArray⟩] 29)).alloc (.cells #[.int .i64 a, .int .i64 b, .int .i64 c, .int .i64 d] 3)) = W2 at *
  obtain ⟨F, hF⟩ : ∃ F, fieldsI op = F := ⟨_, rfl⟩
  have hF4 : F ≤ 4 := by rw [← hF]; exact fields_le op
  have HFF := Lib.hid hF
  clear hF
  go_loopw [3, 19] (fun sv iv wr => ∃ j : Nat, j ≤ 4 ∧ iv = .int .i64 (j : Int) ∧ sv = .string ⟨(jn (N :: (([a, b, c, d] : List Int).take (min j F)).map decL)).toArray⟩ ∧ Hid (wr.heap[w.heap.size]? = some (.cells #[.int .i64 op, .int .i64 a, .int .i64 b, .int .i64 c, .int .i64 d, .int .i64 k, .int .i64 m, .string ⟨s.toArray⟩] 29 (0, 0))) ∧ Hid (wr.heap[w.heap.size + 1]? = some (.cells #[.int .i64 a, .int .i64 b, .int .i64 c, .int .i64 d] 3 (0, 0))) ∧ Below w.heap.size w wr) (fun _ iv _ => 4 - (intOf iv).toNat)
  case atStart => exact ⟨0, by omega, rfl, by simp [jn], HX, HR, B2⟩
  case round =>
    obtain ⟨j, hj, rfl, rfl, X, R, hB⟩ := hrel
    clear HX HR B2
    obtain ⟨x0, x1, x2, x3, x4, x5, x6, x7⟩ := cells8c X.out
    have hpl := HPL.out
    have hnl := name_len op
    rw [HN.out] at hnl
    have hjl : (jn (N :: (([a, b, c, d] : List Int).take (min j F)).map decL)).length ≤ 6 * 31 := by
      have h1 := jn_len (N :: (([a, b, c, d] : List Int).take (min j F)).map decL) 30 (by
        intro q hq
        simp only [List.mem_cons, List.mem_map] at hq
        rcases hq with rfl | ⟨n, hn, rfl⟩
        · exact hnl
        · have hfn := HF.out n (List.mem_of_mem_take hn)
          have := V.decL_len n hfn.1 hfn.2; omega)
      have h2 : (N :: (([a, b, c, d] : List Int).take (min j F)).map decL).length ≤ 6 := by
        rw [List.length_cons, List.length_map, List.length_take]; simp; omega
      exact Nat.le_trans h1 (Nat.mul_le_mul_right _ h2)
    clear hpl hnl
    by_cases hlt : j < 4
    · have hj4 : (j : Int) < 4 := by omega
      obtain ⟨n, hn⟩ : ∃ n, ([a, b, c, d] : List Int)[j]? = some n := ⟨_, List.getElem?_eq_getElem (by simp; omega)⟩
      have hcell : wr.cell? ⟨w.heap.size + 1, j, none⟩ = some (.int .i64 n) := by
        refine cell_lit (cs := ([a, b, c, d] : List Int).map (fun n => Value.int .i64 n)) R.out ?_
        rw [List.getElem?_map, hn]; rfl
      have hfn := Lib.hid (HF.out n (List.mem_of_getElem? hn))
      have hdl := V.decL_len n hfn.out.1 hfn.out.2
      by_cases hjF : j < F
      · have hst : Hid (jn (N :: (([a, b, c, d] : List Int).take (min (j + 1) F)).map decL) = jn (N :: (([a, b, c, d] : List Int).take (min j F)).map decL) ++ ([32] ++ decL n)) := Lib.hid (by
          rw [show min (j + 1) F = j + 1 by omega, show min j F = j by omega, List.take_add_one, hn, List.map_append, ← jn_snoc]; rfl)
        have g1 : decide ((j : Int) < (F : Int)) = true := by simp; omega
        have hlen2 : (decL n).length ≤ 21 := hdl
        clear hn
        generalize jn (N :: (([a, b, c, d] : List Int).take (min j F)).map decL) = S at *
        go_wp2_with fail
        refine (rfields_any op _).mono ?_; rintro e w2 ⟨rfl, rfl⟩
        rw [HFF.out]
        go_wp2_with fail
        refine (rdec_any n _ hfn.out.1 hfn.out.2).mono ?_; rintro e w2 ⟨rfl, b2⟩
        go_wp2_with fail
        go_roundw
        case rel => exact ⟨j + 1, by omega, by go_num, by rw [hst.out, ← cat3], Lib.hid (box_next X.out b2), Lib.hid (box_next R.out b2), hB.trans (b2.mono hB.size)⟩
        case measure => simp [intOf]; omega
      · have hst : Hid (jn (N :: (([a, b, c, d] : List Int).take (min (j + 1) F)).map decL) = jn (N :: (([a, b, c, d] : List Int).take (min j F)).map decL)) := Lib.hid (by rw [show min (j + 1) F = min j F by omega])
        have g1 : decide ((j : Int) < (F : Int)) = false := by simp; omega
        clear hn
        generalize jn (N :: (([a, b, c, d] : List Int).take (min j F)).map decL) = S at *
        go_wp2_with fail
        refine (rfields_any op _).mono ?_; rintro e w2 ⟨rfl, rfl⟩
        rw [HFF.out]
        go_wp2_with fail
        go_roundw
        case rel => exact ⟨j + 1, by omega, by go_num, by rw [hst.out], X, R, hB⟩
        case measure => simp [intOf]; omega
    · obtain rfl : j = 4 := by omega
      have HW : Hid (printI ⟨op, a, b, c, d, ⟨k, m, s⟩⟩ = jn (N :: ((([a, b, c, d] : List Int).take (min 4 F)).map decL ++ tailI op ⟨k, m, s⟩))) := Lib.hid (by
        unfold printI wordsI; rw [HN.out, HFF.out, show min 4 F = F by omega]; rfl)
      by_cases h1 : op = 1
      · have g1 : (op == 1) = true := by simp [h1]
        have HT : Hid (printI ⟨op, a, b, c, d, ⟨k, m, s⟩⟩ = jn (N :: (([a, b, c, d] : List Int).take (min 4 F)).map decL) ++ ([32] ++ printV ⟨k, m, s⟩)) := Lib.hid (by rw [HW.out, ← jn_snoc]; unfold tailI; rw [if_pos h1])
        have hvl := printV_len ⟨k, m, s⟩ HV.out
        have hsl := HS.out
        simp only at hvl hsl
        clear h1
        generalize jn (N :: (([a, b, c, d] : List Int).take (min 4 F)).map decL) = S at *
        go_wp2_with fail
        refine (rprint_any ⟨k, m, s⟩ _ (by simp; omega) HV.out.1 HV.out.2).mono ?_; rintro e w2 ⟨rfl, b2⟩
        generalize printV ⟨k, m, s⟩ = pv at *
        go_wp2_with fail
        go_ret
        exact ⟨by rw [HT.out, ← cat3]; rfl, hB.trans (b2.mono hB.size)⟩
      · have g1 : (op == 1) = false := by simp [h1]
        have HT : Hid (printI ⟨op, a, b, c, d, ⟨k, m, s⟩⟩ = jn (N :: (([a, b, c, d] : List Int).take (min 4 F)).map decL)) := Lib.hid (by rw [HW.out]; unfold tailI; rw [if_neg h1, List.append_nil])
        clear h1
        generalize jn (N :: (([a, b, c, d] : List Int).take (min 4 F)).map decL) = S at *
        go_wp2_with fail
        go_ret
        exact ⟨by rw [HT.out]; rfl, hB⟩
end Go.Proofs.YtpodniljpinigaaDoor.C
