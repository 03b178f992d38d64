/- The contracts of value.Fits, Int, Bool, Text, of the laws' light and of the reference's Right. -/
import Derived.Test.YtpodniljpinigaaDoorValFns
namespace Go.Proofs.YtpodniljpinigaaDoor.V
open Go.RowKit O

def fitsV (v : Val) (k m : Int) : Bool := rightT k m && right v && (v.k == k) && (v.k != 3 || decide ((v.s.length : Int) ≤ m))
theorem int_any (n : Int) (w : World) : Calls Tryd.prog 42 #[.int .i64 n] w fun e w' => e = .returned (vv ⟨1, n, []⟩) ∧ Below w.heap.size w w' := by
  go_enter Tryd.func42, Tryd.ntmps42
  go_wp2_with fail
  refine bodyPost_ret (v := vv ⟨1, n, []⟩) (by simp [results, Tryd.results42, go_sem, vv]) rfl ?_
  refine ⟨rfl, ?_⟩
  repeat (first | (with_reducible exact Below.refl _ _) | (with_reducible assumption) | refine Below.setCell ?_ (by simp <;> omega) _ | refine Below.alloc ?_ (by simp <;> omega) _ | refine Below.drew ?_)
theorem text_any (s : List UInt8) (w : World) : Calls Tryd.prog 50 #[.string ⟨s.toArray⟩] w fun e w' => e = .returned (vv ⟨3, 0, s⟩) ∧ Below w.heap.size w w' := by
  go_enter Tryd.func50, Tryd.ntmps50
  go_wp2_with fail
  refine bodyPost_ret (v := vv ⟨3, 0, s⟩) (by simp [results, Tryd.results50, go_sem, vv]) rfl ?_
  refine ⟨rfl, ?_⟩
  repeat (first | (with_reducible exact Below.refl _ _) | (with_reducible assumption) | refine Below.setCell ?_ (by simp <;> omega) _ | refine Below.alloc ?_ (by simp <;> omega) _ | refine Below.drew ?_)
theorem bool_any (b : Bool) (w : World) : Calls Tryd.prog 45 #[.bool b] w fun e w' => e = .returned (vv ⟨2, if b then 1 else 0, []⟩) ∧ Below w.heap.size w w' := by
  cases b
  · go_enter Tryd.func45, Tryd.ntmps45
    go_wp2_with fail
    refine bodyPost_ret (v := vv ⟨2, 0, []⟩) (by simp [results, Tryd.results45, go_sem, vv]) rfl ?_
    refine ⟨rfl, ?_⟩
    repeat (first | (with_reducible exact Below.refl _ _) | (with_reducible assumption) | refine Below.setCell ?_ (by simp <;> omega) _ | refine Below.alloc ?_ (by simp <;> omega) _ | refine Below.drew ?_)
  · go_enter Tryd.func45, Tryd.ntmps45
    go_wp2_with fail
    refine bodyPost_ret (v := vv ⟨2, 1, []⟩) (by simp [results, Tryd.results45, go_sem, vv]) rfl ?_
    refine ⟨rfl, ?_⟩
    repeat (first | (with_reducible exact Below.refl _ _) | (with_reducible assumption) | refine Below.setCell ?_ (by simp <;> omega) _ | refine Below.alloc ?_ (by simp <;> omega) _ | refine Below.drew ?_)
theorem right3 {v : Val} (h1 : ¬ v.k = 1) (h2 : ¬ v.k = 2) : right v = (v.k == 3 && (v.n == 0 && plainL v.s)) := by
  unfold right
  rw [if_neg h1, if_neg h2]
  by_cases h : v.k = 3 <;> simp [h]
set_option maxHeartbeats 1000000 in
theorem rright_any (v : Val) (w : World) (hs : v.s.length ≤ 1000000000000) : Calls Tryd.prog 18 #[vv v] w fun e w' => e = .returned (.bool (right v)) ∧ Below w.heap.size w w' := by
  obtain ⟨k, n, s⟩ := v
  simp only [vv]
  have hsz : (ByteArray.mk s.toArray).size = s.length := by simp [ByteArray.size]
  by_cases h1 : k = 1
  · subst h1
    go_enter Tryd.func18, Tryd.ntmps18
    go_wp2_with fail
    go_ret
    exact ⟨by simp [right], (Below.refl _ _).alloc (Nat.le_refl _) _⟩
  · by_cases h2 : k = 2
    · subst h2
      cases he : s.isEmpty
      · go_enter Tryd.func18, Tryd.ntmps18
        go_wp2_with fail
        go_ret
        exact ⟨by simp [right, he], (Below.refl _ _).alloc (Nat.le_refl _) _⟩
      · by_cases h0 : 0 ≤ n
        · have e : Hid (decide (n ≤ 1) = (n == 0 || n == 1)) := Lib.hid (by rw [Bool.eq_iff_iff]; simp; omega)
          go_enter Tryd.func18, Tryd.ntmps18
          go_wp2_with fail
          go_ret
          exact ⟨by simp [right, he, e.out], (Below.refl _ _).alloc (Nat.le_refl _) _⟩
        · go_enter Tryd.func18, Tryd.ntmps18
          go_wp2_with fail
          go_ret
          exact ⟨by simp [right, he]; omega, (Below.refl _ _).alloc (Nat.le_refl _) _⟩
    · have hR := Lib.hid (right3 (v := ⟨k, n, s⟩) h1 h2)
      go_enter Tryd.func18, Tryd.ntmps18
      go_wp2_with fail
      go_loop [2, 3] (fun _ i => ∃ k : Nat, k ≤ s.length ∧ i = .int .i64 k ∧ Hid ((s.take k).all okC = true)) (fun _ i => s.length - (intOf i).toNat)
      case atStart => exact ⟨0, by omega, rfl, Lib.hid (by simp)⟩
      case round =>
        obtain ⟨j, hk, rfl, H⟩ := hrel
        by_cases hlt : j < s.length
        · have hn := Lib.hid (all_step hlt H.out)
          have hno := Lib.hid (all_no hlt)
          generalize hc : s[j] = c at hn hno
          have hx := ba_at s j hlt hc
          cases ho : okC c
          · rcases okC_no ho with h1 | ⟨h1, h2⟩
            all_goals
              go_wp2_with fail
              go_ret
              exact ⟨by rw [hR.out]; simp [hno.out ho], (Below.refl _ _).alloc (Nat.le_refl _) _⟩
          · obtain ⟨h1, h2⟩ := okC_yes ho
            go_wp2_with fail
            go_round
            case rel => exact ⟨j + 1, by omega, by go_num, Lib.hid (by rw [hn.out, ho])⟩
            case measure => simp [intOf]; omega
        · obtain rfl : j = s.length := by omega
          have he := Lib.hid (all_end H.out)
          by_cases h3 : k = 3
          · subst h3
            by_cases h0 : n = 0
            · subst h0
              go_wp2_with fail
              go_ret
              exact ⟨by rw [hR.out, he.out]; simp, (Below.refl _ _).alloc (Nat.le_refl _) _⟩
            · go_wp2_with fail
              go_ret
              exact ⟨by rw [hR.out]; simp [h0], (Below.refl _ _).alloc (Nat.le_refl _) _⟩
          · go_wp2_with fail
            go_ret
            exact ⟨by rw [hR.out]; simp [h3], (Below.refl _ _).alloc (Nat.le_refl _) _⟩
end Go.Proofs.YtpodniljpinigaaDoor.V
