/- LexerPlaces' walk: for every text and every number it returns true. -/
import Derived.Test.YtpodniljpinigaaLexLives
import Derived.Test.YtpodniljpinigaaOpen
namespace Go.Proofs.Ytpodniljpinigaa.lexerPlaces
open Go.RowKit O V S X

set_option maxRecDepth 100000 in
set_option maxHeartbeats 1000000 in
theorem walk (s : ByteArray) (off : Int) (w : World) (hs : s.size ≤ maxLen) (_ho : (Lit.int .i64 off).wf = true) :
    Calls Try.prog 5 #[.string s, .int .i64 off] w fun e w' => e = .returned (.bool true) ∧ Below w.heap.size w w' := by
  obtain ⟨l0, rfl⟩ : ∃ l0 : List UInt8, s = ⟨l0.toArray⟩ := ⟨s.data.toList, by cases s; simp⟩
  have hsz : (ByteArray.mk l0.toArray).size = l0.length := by simp [ByteArray.size]
  rw [hsz] at hs
  have hl : (l0.take 1500).length ≤ 1500 := by simp; omega
  go_enter Try.func5, Try.ntmps5
  go_wp2_with fail
  refine (cut_any l0 _ hs).mono ?_; rintro e w1 ⟨rfl, rfl⟩
  generalize l0.take 1500 = l at *
  go_wp2_with fail
  refine (at_any l off _ (by omega)).mono ?_; rintro e w1 ⟨rfl, b1⟩
  go_wp2_with fail
  refine (rat_any l off _ (by omega)).mono ?_; rintro e w2 ⟨rfl, b2⟩
  unfold plc pv
  go_wp2_with fail
  refine (lives_any _).mono ?_; rintro e w3 ⟨rfl, b3⟩
  go_wp2_with fail
  go_ret
  exact ⟨rfl, bthen (bthen b1 b2) b3⟩
end Go.Proofs.Ytpodniljpinigaa.lexerPlaces
