/- strings.Cut at a blank; code's number. -/
import Derived.Test.YtpodniljpinigaaDoorCodePrint
import Derived.Test.YtpodniljpinigaaDoorShelfLex
import Derived.Test.YtpodniljpinigaaDoorShelfSplit
import Derived.Test.YtpodniljpinigaaDoorValParse
import Derived.Test.YtpodniljpinigaaDoorSched
namespace Go.Proofs.YtpodniljpinigaaDoor.C
open Go.RowKit O V

theorem idx_cases : ∀ l : List UInt8, (Lib.indexByte l 32 = -1 ∧ cutW l = l ∧ cutR l = []) ∨ ∃ k : Nat, Lib.indexByte l 32 = k ∧ k < l.length ∧ cutW l = l.take k ∧ cutR l = l.drop (k + 1)
  | [] => .inl ⟨rfl, rfl, rfl⟩
  | c :: r => by
    by_cases hc : c = 32
    · subst hc
      refine .inr ⟨0, by simp [Lib.indexByte], by simp, ?_, ?_⟩
      · have : nb 32 = false := by decide
        simp [cutW, List.takeWhile_cons, this]
      · have : nb 32 = false := by decide
        simp [cutR, List.dropWhile_cons, this]
    · have hn : nb c = true := by
        unfold nb; simp; intro e; exact hc (UInt8.toNat_inj.1 e)
      have e1 : cutW (c :: r) = c :: cutW r := by simp [cutW, List.takeWhile_cons, hn]
      have e2 : cutR (c :: r) = cutR r := by simp [cutR, List.dropWhile_cons, hn]
      have hx : (c == (32 : UInt8)) = false := by simpa using hc
      rcases idx_cases r with ⟨h1, h2, h3⟩ | ⟨k, h1, h2, h3, h4⟩
      · refine .inl ⟨?_, by rw [e1, h2], by rw [e2, h3]⟩
        unfold Lib.indexByte
        simp [hx, h1]
      · refine .inr ⟨k + 1, ?_, by simp; omega, by rw [e1, h3]; simp, by rw [e2, h4]; simp⟩
        unfold Lib.indexByte
        simp only [hx, Bool.false_eq_true, if_false]
        rw [h1, if_neg (by first | (simp; done) | (simp; omega))]
        first | done | rfl | (simp; done) | omega
theorem slByte_any (s : List UInt8) {x : Int} (hx : x = 32) (w : World) : Calls Tryd.prog 66 #[.string ⟨s.toArray⟩, .int .u8 x] w fun e w' => e = .returned (.int .i64 (Lib.indexByte s 32)) ∧ w' = w := by
  subst hx
  exact Tryd.stringslite_IndexByte ⟨s.toArray⟩ 32 w
set_option maxHeartbeats 2000000 in
set_option maxRecDepth 100000 in
theorem slIndex_any (s : List UInt8) (w : World) : Calls Tryd.prog 60 #[.string ⟨s.toArray⟩, .string ⟨#[32]⟩] w fun e w' => e = .returned (.int .i64 (Lib.indexByte s 32)) ∧ w' = w := by
  have hsz : (ByteArray.mk s.toArray).size = s.length := by simp [ByteArray.size]
  cases h : ([32] == s)
  · go_enter Tryd.func60, Tryd.ntmps60
    go_wp2_with fail
    refine (slByte_any s rfl _).mono ?_; rintro e w1 ⟨rfl, rfl⟩
    go_wp2_with fail
    go_ret
    exact ⟨rfl, rfl⟩
  · have hs : s = [32] := by have := eq_of_beq h; exact this.symm
    have hx : Lib.indexByte s 32 = 0 := by rw [hs]; rfl
    rw [hx]
    clear hs hx
    go_enter Tryd.func60, Tryd.ntmps60
    go_wp2_with fail
    go_ret
    exact ⟨rfl, rfl⟩
set_option maxHeartbeats 2000000 in
set_option maxRecDepth 100000 in
theorem slCut_any (s : List UInt8) (w : World) (hs : s.length ≤ 1000000) : Calls Tryd.prog 48 #[.string ⟨s.toArray⟩, .string ⟨#[32]⟩] w fun e w' => (∃ b, e = .returned (.tuple #[.string ⟨(cutW s).toArray⟩, .string ⟨(cutR s).toArray⟩, .bool b])) ∧ Below w.heap.size w w' := by
  have hsz : (ByteArray.mk s.toArray).size = s.length := by simp [ByteArray.size]
  have HC := Lib.hid (idx_cases s)
  go_enter Tryd.func48, Tryd.ntmps48
  go_wp2_with fail
  refine (slIndex_any s _).mono ?_; rintro e w1 ⟨rfl, rfl⟩
  rcases HC.out with ⟨h1, h2, h3⟩ | ⟨k, h1, h2, h3, h4⟩
  · rw [h1]
    have H2 := Lib.hid h2
    have H3 := Lib.hid h3
    clear h1 h2 h3
    go_wp2_with fail
    go_ret3
    exact ⟨⟨false, by rw [H2.out, H3.out]; rfl⟩, Below.refl _ _⟩
  · rw [h1]
    have H3 := Lib.hid h3
    have H4 := Lib.hid h4
    have hcut1 : (ByteArray.mk s.toArray).extract 0 k = ⟨(s.take k).toArray⟩ := by
      apply ByteArray.ext; simp [List.extract_eq_take_drop]
    have hcut2 : (ByteArray.mk s.toArray).extract (k + 1) s.length = ⟨(s.drop (k + 1)).toArray⟩ := by
      apply ByteArray.ext; simp [List.extract_eq_take_drop]
      rw [List.take_of_length_le (by simp)]
    obtain ⟨q, hq⟩ : ∃ q, k + 1 = q := ⟨_, rfl⟩
    have hwr : IntKind.i64.wrap ((k : Int) + 1) = (q : Int) := by rw [IntWalk.i64_in _ (by omega)]; omega
    have hki : (k : Int) ≤ (s.length : Int) := by omega
    have hk1 : (q : Int) ≤ (s.length : Int) := by omega
    have hk2 : q ≤ s.length := by omega
    have hk0 : decide ((k : Int) ≥ 0) = true := by simp
    have hk3 : decide (q ≤ s.length) = true := by simp; omega
    have hk4 : decide (k ≤ s.length) = true := by simp; omega
    rw [hq] at hcut2 H4
    clear hq
    clear h1 h3 h4
    go_wp2_with fail
    refine wp_region_sched [(0, true), (1, true), (2, true), (3, true), (4, true), (5, true), (6, true), (7, true), (8, true), (9, true), (10, true), (11, true)] (by kernel_rfl) (by kernel_rfl) (fun _ _ d _ _ h => by cases d <;> exact h) ?_
    repeat (first | (refine sreadx rfl rfl ?_; apply Exists.intro; apply And.intro; (· (intro W hW; first | (go_simp; done) | (go_simp; with_reducible rfl) | (go_simp; rw [if_neg (by omega)]; done) | (go_simp; rw [if_neg (by omega)]; with_reducible rfl))); simp only [Act.put, List.setIfInBounds_toArray, List.set_cons_zero, List.set_cons_succ]) | (refine sskip rfl rfl ?_; simp only [Act.put, List.setIfInBounds_toArray, List.set_cons_zero, List.set_cons_succ]))
    refine sdone ?_
    go_wp2_with fail
    go_ret3
    exact ⟨⟨true, by rw [H3.out, H4.out]; rfl⟩, (Below.refl _ _).drew⟩
theorem ccut_any (s : List UInt8) (w : World) (hs : s.length ≤ 1000000) : Calls Tryd.prog 36 #[.string ⟨s.toArray⟩, .string ⟨#[32]⟩] w fun e w' => (∃ b, e = .returned (.tuple #[.string ⟨(cutW s).toArray⟩, .string ⟨(cutR s).toArray⟩, .bool b])) ∧ Below w.heap.size w w' := by
  have H := Lib.hid (slCut_any s w hs)
  go_enter Tryd.func36, Tryd.ntmps36
  go_wp2_with fail
  refine (H.out).mono ?_; rintro e w1 ⟨⟨b, rfl⟩, b1⟩
  go_wp2_with fail
  go_ret3
  exact ⟨⟨b, rfl⟩, b1⟩
theorem resP_cases (s : List UInt8) : (∃ v, parseV s = some v ∧ goodV v ∧ resP (parseV s) = .tuple #[vv v, .bool true]) ∨ (parseV s = none ∧ resP (parseV s) = .tuple #[vv ⟨0, 0, []⟩, .bool false]) := by
  cases h : parseV s with
  | none => exact .inr ⟨rfl, rfl⟩
  | some v => exact .inl ⟨v, rfl, (parseV_iff.1 h).1, rfl⟩
theorem number_c (s : List UInt8) (w : World) (hs : s.length ≤ 1000000) : Calls Tryd.prog 37 #[.string ⟨s.toArray⟩] w fun e w' => e = .returned (.int .i64 (num s)) ∧ Below w.heap.size w w' := by
  have HN : Hid (num s = match parseV s with | some v => v.n | none => 0) := Lib.hid rfl
  have HR := Lib.hid (resP_cases s)
  go_enter Tryd.func37, Tryd.ntmps37
  go_wp2_with fail
  refine (parse_any s _ (by omega)).mono ?_; rintro e w1 ⟨rfl, b1⟩
  rcases HR.out with ⟨v, h1, h2, h3⟩ | ⟨h1, h3⟩
  · have HV : Hid (num s = v.n) := Lib.hid (by rw [HN.out, h1])
    rw [h3]
    clear h1 h2 h3
    unfold vv
    go_wp2_with fail
    go_ret
    exact ⟨by rw [HV.out]; rfl, b1.alloc b1.size _⟩
  · have HV : Hid (num s = 0) := Lib.hid (by rw [HN.out, h1])
    rw [h3]
    clear h1 h3
    unfold vv
    go_wp2_with fail
    go_ret
    exact ⟨by rw [HV.out]; rfl, b1.alloc b1.size _⟩
end Go.Proofs.YtpodniljpinigaaDoor.C
