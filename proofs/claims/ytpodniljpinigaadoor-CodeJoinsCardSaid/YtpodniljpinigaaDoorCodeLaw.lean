/- law15's light and lives. -/
import Derived.Test.YtpodniljpinigaaDoorCodeParse
namespace Go.Proofs.YtpodniljpinigaaDoor.C
open Go.RowKit O V

theorem light_any (x : Ins) (w : World) (hs : x.v.s.length ≤ 9223372036854775807) : Calls Tryd.prog 7 #[insV x] w fun e w' => e = .returned (.bool (decide ((x.v.s.length : Int) ≤ 100))) ∧ Below w.heap.size w w' := by
  obtain ⟨op, a, b, c, d, ⟨k, m, s⟩⟩ := x
  have hsz : (ByteArray.mk s.toArray).size = s.length := by simp [ByteArray.size]
  simp only at hs
  unfold insV insC
  go_enter Tryd.func7, Tryd.ntmps7
  go_wp2_with fail
  go_ret
  exact ⟨rfl, (Below.refl _ _).alloc (Nat.le_refl _) _⟩
theorem m_end : parseM [101, 110, 100] = some ⟨17, 0, 0, 0, 0, zV⟩ := parseM_iff.2 ⟨⟨by decide, by decide, fun _ => rfl, fun h => absurd h (by decide), fun i hi => by
    match i with
    | 0 => rfl
    | 1 => rfl
    | 2 => rfl
    | 3 => rfl
    | i + 4 => rfl, fun n hn => by simp [fl] at hn; subst hn; exact ⟨by decide, by decide⟩⟩, by decide +kernel⟩
theorem p_val : printI ⟨1, 2, 0, 0, 0, ⟨1, 5, []⟩⟩ = [118, 97, 108, 117, 101, 32, 50, 32, 53] := by decide +kernel
set_option maxHeartbeats 1000000 in
set_option maxRecDepth 100000 in
theorem clives_any (w : World) : Calls Tryd.prog 6 #[] w fun e w' => e = .returned (.bool true) ∧ Below w.heap.size w w' := by
  go_enter Tryd.func6, Tryd.ntmps6
  go_wp2_with fail
  refine (parse_c [101, 110, 100] _ (by decide)).mono ?_; rintro e w1 ⟨he, b1⟩
  rw [m_end] at he
  subst he
  unfold RetI insV insC zV
  go_wp2_with fail
  refine (cprint_any ⟨1, 2, 0, 0, 0, ⟨1, 5, []⟩⟩ _ (by decide) (fun n hn => by simp [fl] at hn; rcases hn with rfl | rfl <;> exact ⟨by decide, by decide⟩) ⟨by decide, by decide⟩).mono ?_; rintro e w2 ⟨rfl, b2⟩
  rw [p_val]
  have X2 := box_next (heap_alloc_new w1 (.cells #[.int .i64 17, .int .i64 0, .int .i64 0, .int .i64 0, .int .i64 0, .int .i64 0, .int .i64 0, .string ⟨#[]⟩] 29)) b2
  obtain ⟨x0, x1, x2, x3, x4, x5, x6, x7⟩ := cells8c X2
  go_wp2_with fail
  go_ret
  exact ⟨rfl, bthen (bthen b1 ((Below.refl _ _).alloc (Nat.le_refl _) _)) b2⟩
end Go.Proofs.YtpodniljpinigaaDoor.C
