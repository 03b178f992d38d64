/- The plain law of WalCrashes: a log of frames that was cut is scanned as a beginning of them. -/
import Derived.Test.YtkcehoejcklmfaaWalJoinPlain
import Derived.Test.YtkcehoejcklmfaaWalOpen
namespace Go.Proofs.Ytkcehoejcklmfaa.L
open Go.RowKit O D K

/-- A torn frame is no frame. -/
theorem frame_torn {L pre rest s : List UInt8} {g m : Nat} (hL : L = pre ++ (frameL g s ++ rest)) (hg : g < 4294967296) (hl : L.length < 1000000000) (hm : m < pre.length + (frameL g s).length) (hp : pre.length ≤ m) :
    frameAt (L.take m) (pre.length : Nat) = none := by
  cases h : frameAt (L.take m) (pre.length : Nat) with
  | none => rfl
  | some q =>
    exfalso
    obtain ⟨g', s', k'⟩ := q
    have hlt : (L.take m).length < 1000000000 := by simp; omega
    obtain ⟨f1, f2, f3, f4⟩ := (frameAt_some hlt).1 h
    have hlm : (L.take m).length ≤ m := by simp; omega
    have hfull : frameAt L (pre.length : Nat) = some (g', s', k') := (frameAt_some hl).2 ⟨f1, by simp at f2; omega, f3, by
      rw [← f4, List.drop_take, List.take_take]
      congr 1
      omega⟩
    have := frame_here hL hg hl
    rw [hfull] at this
    injection this with this
    injection this with _ this
    injection this with _ this
    omega
theorem scan_cut (g : Nat) (hg : g < 4294967296) : ∀ (rows : List (List UInt8)) (L pre : List UInt8) (m : Nat), L = pre ++ catF g rows → L.length < 1000000000 → pre.length ≤ m →
    ∃ j, j ≤ rows.length ∧ scanFrom (L.take m) g pre.length = (rows.take j, pre.length + (catF g (rows.take j)).length) ∧ ∀ k, k ≤ rows.length → pre.length + (catF g (rows.take k)).length ≤ m → k ≤ j
  | [], L, pre, m, hL, hl, hp => by
    refine ⟨0, Nat.le_refl _, ?_, fun k hk _ => hk⟩
    have e : L.take m = L := List.take_of_length_le (by rw [hL]; simpa [catF] using hp)
    have e2 : L.length = pre.length := by rw [hL]; simp [catF]
    rw [e, ← e2, scan_last hl]
    simp [catF]
  | s :: rows, L, pre, m, hL, hl, hp => by
    have e : catF g (s :: rows) = frameL g s ++ catF g rows := by simp [catF]
    rw [e] at hL
    by_cases hm : m < pre.length + (frameL g s).length
    · refine ⟨0, Nat.zero_le _, ?_, fun k hk hkm => ?_⟩
      · rw [scan_no fun s' k' h' => by rw [frame_torn hL hg hl hm hp] at h'; cases h']
        simp [catF]
      · cases k with
        | zero => exact Nat.le_refl _
        | succ k =>
          exfalso
          have : (catF g ((s :: rows).take (k + 1))).length = (frameL g s).length + (catF g (rows.take k)).length := by simp [catF]
          omega
    · have hlt : (L.take m).length < 1000000000 := by simp; omega
      have hf : frameAt (L.take m) (pre.length : Nat) = some (g, s, (frameL g s).length) :=
        (frameAt_some hlt).2 ⟨hg, by rw [List.length_take, hL]; simp; omega, rfl, by rw [List.drop_take, List.take_take, hL, List.drop_left]; rw [show min (frameL g s).length (m - pre.length) = (frameL g s).length by omega, List.take_left]⟩
      obtain ⟨j, hj, hs, hk⟩ := scan_cut g hg rows L (pre ++ frameL g s) m (by rw [hL, List.append_assoc]) hl (by simp; omega)
      refine ⟨j + 1, by simp; omega, ?_, fun k hk1 hk2 => ?_⟩
      · rw [List.length_append] at hs
        rw [scan_yes hlt hf, hs]
        simp [catF]
        omega
      · cases k with
        | zero => omega
        | succ k =>
          have e3 : (catF g ((s :: rows).take (k + 1))).length = (frameL g s).length + (catF g (rows.take k)).length := by simp [catF]
          have := hk k (by simp at hk1; omega) (by simp; omega)
          omega
end Go.Proofs.Ytkcehoejcklmfaa.L
