/- The contracts of value.Fits, Int, Bool, Text, of the laws' light and of the reference's Right. -/
import Derived.Test.YtpkoijlbbfffiaaValFns
namespace Go.Proofs.Ytpkoijlbbfffiaa.V
open Go.RowKit O

def fitsV (v : Val) (k m : Int) : Bool := rightT k m && right v && (v.k == k) && (v.k != 3 || decide ((v.s.length : Int) ≤ m))
set_option maxHeartbeats 1000000 in
theorem fits_any (v : Val) (k m : Int) (w : World) (hs : v.s.length ≤ 1000000000000) : Calls Try.prog 19 #[vv v, tv k m] w fun e w' => e = .returned (.bool (fitsV v k m)) ∧ Below w.heap.size w w' := by
  obtain ⟨a, n, s⟩ := v
  have hF : Hid (fitsV ⟨a, n, s⟩ k m = (rightT k m && right ⟨a, n, s⟩ && (a == k) && (a != 3 || decide ((s.length : Int) ≤ m)))) := Lib.hid rfl
  have hsz : (ByteArray.mk s.toArray).size = s.length := by simp [ByteArray.size]
  simp only [vv, tv]
  cases hr : rightT k m
  · go_enter Try.func19, Try.ntmps19
    go_wp2_with fail
    refine (rightType_any k m _).mono ?_; rintro e w1 ⟨rfl, b1⟩
    have B1 : Below w.heap.size w w1 := bthen (by repeat (first | exact Below.refl _ _ | refine Below.alloc ?_ (by simp <;> omega) _)) b1
    go_wp2_with fail
    go_ret
    exact ⟨by rw [hF.out, hr]; rfl, B1⟩
  · cases hv : right ⟨a, n, s⟩
    · go_enter Try.func19, Try.ntmps19
      go_wp2_with fail
      refine (rightType_any k m _).mono ?_; rintro e w1 ⟨rfl, b1⟩
      have B1 : Below w.heap.size w w1 := bthen (by repeat (first | exact Below.refl _ _ | refine Below.alloc ?_ (by simp <;> omega) _)) b1
      have x : w1.heap[w.heap.size]? = some (.cells #[.int .i64 a, .int .i64 n, .string ⟨s.toArray⟩] 23 (0, 0)) := box_next (by repeat (first | (refine alloc_at ?_; simp; done) | refine alloc_old' ?_)) b1
      have xc0 : w1.cell? ⟨w.heap.size, 0, none⟩ = some (.int .i64 a) := by rw [Lib.cell_of_heap x]; rfl
      have xf0 : w1.frozen? ⟨w.heap.size, 0, none⟩ = false := Lib.frozen_of_heap x 0
      have xc1 : w1.cell? ⟨w.heap.size, 1, none⟩ = some (.int .i64 n) := by rw [Lib.cell_of_heap x]; rfl
      have xf1 : w1.frozen? ⟨w.heap.size, 1, none⟩ = false := Lib.frozen_of_heap x 1
      have xc2 : w1.cell? ⟨w.heap.size, 2, none⟩ = some (.string ⟨s.toArray⟩) := by rw [Lib.cell_of_heap x]; rfl
      have xf2 : w1.frozen? ⟨w.heap.size, 2, none⟩ = false := Lib.frozen_of_heap x 2
      go_wp2_with fail
      refine (right_any ⟨a, n, s⟩ _ hs).mono ?_; rintro e w2 ⟨rfl, b2⟩
      go_wp2_with fail
      go_ret
      exact ⟨by rw [hF.out, hr, hv]; rfl, bthen B1 b2⟩
    · by_cases hk : a = k
      · subst hk
        by_cases h3 : a = 3
        · subst h3
          go_enter Try.func19, Try.ntmps19
          go_wp2_with fail
          refine (rightType_any 3 m _).mono ?_; rintro e w1 ⟨rfl, b1⟩
          have B1 : Below w.heap.size w w1 := bthen (by repeat (first | exact Below.refl _ _ | refine Below.alloc ?_ (by simp <;> omega) _)) b1
          have x : w1.heap[w.heap.size]? = some (.cells #[.int .i64 3, .int .i64 n, .string ⟨s.toArray⟩] 23 (0, 0)) := box_next (by repeat (first | (refine alloc_at ?_; simp; done) | refine alloc_old' ?_)) b1
          have xc0 : w1.cell? ⟨w.heap.size, 0, none⟩ = some (.int .i64 3) := by rw [Lib.cell_of_heap x]; rfl
          have xf0 : w1.frozen? ⟨w.heap.size, 0, none⟩ = false := Lib.frozen_of_heap x 0
          have xc1 : w1.cell? ⟨w.heap.size, 1, none⟩ = some (.int .i64 n) := by rw [Lib.cell_of_heap x]; rfl
          have xf1 : w1.frozen? ⟨w.heap.size, 1, none⟩ = false := Lib.frozen_of_heap x 1
          have xc2 : w1.cell? ⟨w.heap.size, 2, none⟩ = some (.string ⟨s.toArray⟩) := by rw [Lib.cell_of_heap x]; rfl
          have xf2 : w1.frozen? ⟨w.heap.size, 2, none⟩ = false := Lib.frozen_of_heap x 2
          have y : w1.heap[(w.heap.size + 1)]? = some (.cells #[.int .i64 3, .int .i64 m] 25 (0, 0)) := box_next (by repeat (first | (refine alloc_at ?_; simp; done) | refine alloc_old' ?_)) b1
          have yc0 : w1.cell? ⟨(w.heap.size + 1), 0, none⟩ = some (.int .i64 3) := by rw [Lib.cell_of_heap y]; rfl
          have yf0 : w1.frozen? ⟨(w.heap.size + 1), 0, none⟩ = false := Lib.frozen_of_heap y 0
          have yc1 : w1.cell? ⟨(w.heap.size + 1), 1, none⟩ = some (.int .i64 m) := by rw [Lib.cell_of_heap y]; rfl
          have yf1 : w1.frozen? ⟨(w.heap.size + 1), 1, none⟩ = false := Lib.frozen_of_heap y 1
          go_wp2_with fail
          refine (right_any ⟨3, n, s⟩ _ hs).mono ?_; rintro e w2 ⟨rfl, b2⟩
          have x' : w2.heap[w.heap.size]? = some (.cells #[.int .i64 3, .int .i64 n, .string ⟨s.toArray⟩] 23 (0, 0)) := box_next x b2
          have x'c0 : w2.cell? ⟨w.heap.size, 0, none⟩ = some (.int .i64 3) := by rw [Lib.cell_of_heap x']; rfl
          have x'f0 : w2.frozen? ⟨w.heap.size, 0, none⟩ = false := Lib.frozen_of_heap x' 0
          have x'c1 : w2.cell? ⟨w.heap.size, 1, none⟩ = some (.int .i64 n) := by rw [Lib.cell_of_heap x']; rfl
          have x'f1 : w2.frozen? ⟨w.heap.size, 1, none⟩ = false := Lib.frozen_of_heap x' 1
          have x'c2 : w2.cell? ⟨w.heap.size, 2, none⟩ = some (.string ⟨s.toArray⟩) := by rw [Lib.cell_of_heap x']; rfl
          have x'f2 : w2.frozen? ⟨w.heap.size, 2, none⟩ = false := Lib.frozen_of_heap x' 2
          have y' : w2.heap[(w.heap.size + 1)]? = some (.cells #[.int .i64 3, .int .i64 m] 25 (0, 0)) := box_next y b2
          have y'c0 : w2.cell? ⟨(w.heap.size + 1), 0, none⟩ = some (.int .i64 3) := by rw [Lib.cell_of_heap y']; rfl
          have y'f0 : w2.frozen? ⟨(w.heap.size + 1), 0, none⟩ = false := Lib.frozen_of_heap y' 0
          have y'c1 : w2.cell? ⟨(w.heap.size + 1), 1, none⟩ = some (.int .i64 m) := by rw [Lib.cell_of_heap y']; rfl
          have y'f1 : w2.frozen? ⟨(w.heap.size + 1), 1, none⟩ = false := Lib.frozen_of_heap y' 1
          clear x y xc0 xc1 xc2 yc0 yc1
          go_wp2_with fail
          go_ret
          exact ⟨by rw [hF.out, hr, hv]; simp, bthen B1 b2⟩
        · go_enter Try.func19, Try.ntmps19
          go_wp2_with fail
          refine (rightType_any a m _).mono ?_; rintro e w1 ⟨rfl, b1⟩
          have B1 : Below w.heap.size w w1 := bthen (by repeat (first | exact Below.refl _ _ | refine Below.alloc ?_ (by simp <;> omega) _)) b1
          have x : w1.heap[w.heap.size]? = some (.cells #[.int .i64 a, .int .i64 n, .string ⟨s.toArray⟩] 23 (0, 0)) := box_next (by repeat (first | (refine alloc_at ?_; simp; done) | refine alloc_old' ?_)) b1
          have xc0 : w1.cell? ⟨w.heap.size, 0, none⟩ = some (.int .i64 a) := by rw [Lib.cell_of_heap x]; rfl
          have xf0 : w1.frozen? ⟨w.heap.size, 0, none⟩ = false := Lib.frozen_of_heap x 0
          have xc1 : w1.cell? ⟨w.heap.size, 1, none⟩ = some (.int .i64 n) := by rw [Lib.cell_of_heap x]; rfl
          have xf1 : w1.frozen? ⟨w.heap.size, 1, none⟩ = false := Lib.frozen_of_heap x 1
          have xc2 : w1.cell? ⟨w.heap.size, 2, none⟩ = some (.string ⟨s.toArray⟩) := by rw [Lib.cell_of_heap x]; rfl
          have xf2 : w1.frozen? ⟨w.heap.size, 2, none⟩ = false := Lib.frozen_of_heap x 2
          have y : w1.heap[(w.heap.size + 1)]? = some (.cells #[.int .i64 a, .int .i64 m] 25 (0, 0)) := box_next (by repeat (first | (refine alloc_at ?_; simp; done) | refine alloc_old' ?_)) b1
          have yc0 : w1.cell? ⟨(w.heap.size + 1), 0, none⟩ = some (.int .i64 a) := by rw [Lib.cell_of_heap y]; rfl
          have yf0 : w1.frozen? ⟨(w.heap.size + 1), 0, none⟩ = false := Lib.frozen_of_heap y 0
          have yc1 : w1.cell? ⟨(w.heap.size + 1), 1, none⟩ = some (.int .i64 m) := by rw [Lib.cell_of_heap y]; rfl
          have yf1 : w1.frozen? ⟨(w.heap.size + 1), 1, none⟩ = false := Lib.frozen_of_heap y 1
          go_wp2_with fail
          refine (right_any ⟨a, n, s⟩ _ hs).mono ?_; rintro e w2 ⟨rfl, b2⟩
          have x' : w2.heap[w.heap.size]? = some (.cells #[.int .i64 a, .int .i64 n, .string ⟨s.toArray⟩] 23 (0, 0)) := box_next x b2
          have x'c0 : w2.cell? ⟨w.heap.size, 0, none⟩ = some (.int .i64 a) := by rw [Lib.cell_of_heap x']; rfl
          have x'f0 : w2.frozen? ⟨w.heap.size, 0, none⟩ = false := Lib.frozen_of_heap x' 0
          have x'c1 : w2.cell? ⟨w.heap.size, 1, none⟩ = some (.int .i64 n) := by rw [Lib.cell_of_heap x']; rfl
          have x'f1 : w2.frozen? ⟨w.heap.size, 1, none⟩ = false := Lib.frozen_of_heap x' 1
          have x'c2 : w2.cell? ⟨w.heap.size, 2, none⟩ = some (.string ⟨s.toArray⟩) := by rw [Lib.cell_of_heap x']; rfl
          have x'f2 : w2.frozen? ⟨w.heap.size, 2, none⟩ = false := Lib.frozen_of_heap x' 2
          have y' : w2.heap[(w.heap.size + 1)]? = some (.cells #[.int .i64 a, .int .i64 m] 25 (0, 0)) := box_next y b2
          have y'c0 : w2.cell? ⟨(w.heap.size + 1), 0, none⟩ = some (.int .i64 a) := by rw [Lib.cell_of_heap y']; rfl
          have y'f0 : w2.frozen? ⟨(w.heap.size + 1), 0, none⟩ = false := Lib.frozen_of_heap y' 0
          have y'c1 : w2.cell? ⟨(w.heap.size + 1), 1, none⟩ = some (.int .i64 m) := by rw [Lib.cell_of_heap y']; rfl
          have y'f1 : w2.frozen? ⟨(w.heap.size + 1), 1, none⟩ = false := Lib.frozen_of_heap y' 1
          clear x y xc0 xc1 xc2 yc0 yc1
          go_wp2_with fail
          go_ret
          exact ⟨by rw [hF.out, hr, hv]; simp [h3], bthen B1 b2⟩
      · go_enter Try.func19, Try.ntmps19
        go_wp2_with fail
        refine (rightType_any k m _).mono ?_; rintro e w1 ⟨rfl, b1⟩
        have B1 : Below w.heap.size w w1 := bthen (by repeat (first | exact Below.refl _ _ | refine Below.alloc ?_ (by simp <;> omega) _)) b1
        have x : w1.heap[w.heap.size]? = some (.cells #[.int .i64 a, .int .i64 n, .string ⟨s.toArray⟩] 23 (0, 0)) := box_next (by repeat (first | (refine alloc_at ?_; simp; done) | refine alloc_old' ?_)) b1
        have xc0 : w1.cell? ⟨w.heap.size, 0, none⟩ = some (.int .i64 a) := by rw [Lib.cell_of_heap x]; rfl
        have xf0 : w1.frozen? ⟨w.heap.size, 0, none⟩ = false := Lib.frozen_of_heap x 0
        have xc1 : w1.cell? ⟨w.heap.size, 1, none⟩ = some (.int .i64 n) := by rw [Lib.cell_of_heap x]; rfl
        have xf1 : w1.frozen? ⟨w.heap.size, 1, none⟩ = false := Lib.frozen_of_heap x 1
        have xc2 : w1.cell? ⟨w.heap.size, 2, none⟩ = some (.string ⟨s.toArray⟩) := by rw [Lib.cell_of_heap x]; rfl
        have xf2 : w1.frozen? ⟨w.heap.size, 2, none⟩ = false := Lib.frozen_of_heap x 2
        have y : w1.heap[(w.heap.size + 1)]? = some (.cells #[.int .i64 k, .int .i64 m] 25 (0, 0)) := box_next (by repeat (first | (refine alloc_at ?_; simp; done) | refine alloc_old' ?_)) b1
        have yc0 : w1.cell? ⟨(w.heap.size + 1), 0, none⟩ = some (.int .i64 k) := by rw [Lib.cell_of_heap y]; rfl
        have yf0 : w1.frozen? ⟨(w.heap.size + 1), 0, none⟩ = false := Lib.frozen_of_heap y 0
        have yc1 : w1.cell? ⟨(w.heap.size + 1), 1, none⟩ = some (.int .i64 m) := by rw [Lib.cell_of_heap y]; rfl
        have yf1 : w1.frozen? ⟨(w.heap.size + 1), 1, none⟩ = false := Lib.frozen_of_heap y 1
        go_wp2_with fail
        refine (right_any ⟨a, n, s⟩ _ hs).mono ?_; rintro e w2 ⟨rfl, b2⟩
        have x' : w2.heap[w.heap.size]? = some (.cells #[.int .i64 a, .int .i64 n, .string ⟨s.toArray⟩] 23 (0, 0)) := box_next x b2
        have x'c0 : w2.cell? ⟨w.heap.size, 0, none⟩ = some (.int .i64 a) := by rw [Lib.cell_of_heap x']; rfl
        have x'f0 : w2.frozen? ⟨w.heap.size, 0, none⟩ = false := Lib.frozen_of_heap x' 0
        have x'c1 : w2.cell? ⟨w.heap.size, 1, none⟩ = some (.int .i64 n) := by rw [Lib.cell_of_heap x']; rfl
        have x'f1 : w2.frozen? ⟨w.heap.size, 1, none⟩ = false := Lib.frozen_of_heap x' 1
        have x'c2 : w2.cell? ⟨w.heap.size, 2, none⟩ = some (.string ⟨s.toArray⟩) := by rw [Lib.cell_of_heap x']; rfl
        have x'f2 : w2.frozen? ⟨w.heap.size, 2, none⟩ = false := Lib.frozen_of_heap x' 2
        have y' : w2.heap[(w.heap.size + 1)]? = some (.cells #[.int .i64 k, .int .i64 m] 25 (0, 0)) := box_next y b2
        have y'c0 : w2.cell? ⟨(w.heap.size + 1), 0, none⟩ = some (.int .i64 k) := by rw [Lib.cell_of_heap y']; rfl
        have y'f0 : w2.frozen? ⟨(w.heap.size + 1), 0, none⟩ = false := Lib.frozen_of_heap y' 0
        have y'c1 : w2.cell? ⟨(w.heap.size + 1), 1, none⟩ = some (.int .i64 m) := by rw [Lib.cell_of_heap y']; rfl
        have y'f1 : w2.frozen? ⟨(w.heap.size + 1), 1, none⟩ = false := Lib.frozen_of_heap y' 1
        clear x y xc0 xc1 xc2 yc0 yc1
        go_wp2_with fail
        go_ret
        exact ⟨by rw [hF.out, hr, hv]; simp [hk], bthen B1 b2⟩
theorem int_any (n : Int) (w : World) : Calls Try.prog 64 #[.int .i64 n] w fun e w' => e = .returned (vv ⟨1, n, []⟩) ∧ Below w.heap.size w w' := by
  go_enter Try.func64, Try.ntmps64
  go_wp2_with fail
  refine bodyPost_ret (v := vv ⟨1, n, []⟩) (by simp [results, Try.results64, go_sem, vv]) rfl ?_
  refine ⟨rfl, ?_⟩
  repeat (first | (with_reducible exact Below.refl _ _) | (with_reducible assumption) | refine Below.setCell ?_ (by simp <;> omega) _ | refine Below.alloc ?_ (by simp <;> omega) _ | refine Below.drew ?_)
theorem text_any (s : List UInt8) (w : World) : Calls Try.prog 62 #[.string ⟨s.toArray⟩] w fun e w' => e = .returned (vv ⟨3, 0, s⟩) ∧ Below w.heap.size w w' := by
  go_enter Try.func62, Try.ntmps62
  go_wp2_with fail
  refine bodyPost_ret (v := vv ⟨3, 0, s⟩) (by simp [results, Try.results62, go_sem, vv]) rfl ?_
  refine ⟨rfl, ?_⟩
  repeat (first | (with_reducible exact Below.refl _ _) | (with_reducible assumption) | refine Below.setCell ?_ (by simp <;> omega) _ | refine Below.alloc ?_ (by simp <;> omega) _ | refine Below.drew ?_)
theorem bool_any (b : Bool) (w : World) : Calls Try.prog 63 #[.bool b] w fun e w' => e = .returned (vv ⟨2, if b then 1 else 0, []⟩) ∧ Below w.heap.size w w' := by
  cases b
  · go_enter Try.func63, Try.ntmps63
    go_wp2_with fail
    refine bodyPost_ret (v := vv ⟨2, 0, []⟩) (by simp [results, Try.results63, go_sem, vv]) rfl ?_
    refine ⟨rfl, ?_⟩
    repeat (first | (with_reducible exact Below.refl _ _) | (with_reducible assumption) | refine Below.setCell ?_ (by simp <;> omega) _ | refine Below.alloc ?_ (by simp <;> omega) _ | refine Below.drew ?_)
  · go_enter Try.func63, Try.ntmps63
    go_wp2_with fail
    refine bodyPost_ret (v := vv ⟨2, 1, []⟩) (by simp [results, Try.results63, go_sem, vv]) rfl ?_
    refine ⟨rfl, ?_⟩
    repeat (first | (with_reducible exact Below.refl _ _) | (with_reducible assumption) | refine Below.setCell ?_ (by simp <;> omega) _ | refine Below.alloc ?_ (by simp <;> omega) _ | refine Below.drew ?_)
theorem light_any (v : Val) (w : World) (hs : v.s.length ≤ 9223372036854775807) : Calls Try.prog 15 #[vv v] w fun e w' => e = .returned (.bool (decide ((v.s.length : Int) ≤ 100))) ∧ Below w.heap.size w w' := by
  obtain ⟨a, n, s⟩ := v
  have hsz : (ByteArray.mk s.toArray).size = s.length := by simp [ByteArray.size]
  simp only [vv]
  go_enter Try.func15, Try.ntmps15
  go_wp2_with fail
  go_ret
  refine ⟨rfl, ?_⟩
  repeat (first | (with_reducible exact Below.refl _ _) | (with_reducible assumption) | refine Below.setCell ?_ (by simp <;> omega) _ | refine Below.alloc ?_ (by simp <;> omega) _ | refine Below.drew ?_)
theorem right3 {v : Val} (h1 : ¬ v.k = 1) (h2 : ¬ v.k = 2) : right v = (v.k == 3 && (v.n == 0 && plainL v.s)) := by
  unfold right
  rw [if_neg h1, if_neg h2]
  by_cases h : v.k = 3 <;> simp [h]
set_option maxHeartbeats 1000000 in
theorem rright_any (v : Val) (w : World) (hs : v.s.length ≤ 1000000000000) : Calls Try.prog 97 #[vv v] w fun e w' => e = .returned (.bool (right v)) ∧ Below w.heap.size w w' := by
  obtain ⟨k, n, s⟩ := v
  simp only [vv]
  have hsz : (ByteArray.mk s.toArray).size = s.length := by simp [ByteArray.size]
  by_cases h1 : k = 1
  · subst h1
    go_enter Try.func97, Try.ntmps97
    go_wp2_with fail
    go_ret
    exact ⟨by simp [right], (Below.refl _ _).alloc (Nat.le_refl _) _⟩
  · by_cases h2 : k = 2
    · subst h2
      cases he : s.isEmpty
      · go_enter Try.func97, Try.ntmps97
        go_wp2_with fail
        go_ret
        exact ⟨by simp [right, he], (Below.refl _ _).alloc (Nat.le_refl _) _⟩
      · by_cases h0 : 0 ≤ n
        · have e : Hid (decide (n ≤ 1) = (n == 0 || n == 1)) := Lib.hid (by rw [Bool.eq_iff_iff]; simp; omega)
          go_enter Try.func97, Try.ntmps97
          go_wp2_with fail
          go_ret
          exact ⟨by simp [right, he, e.out], (Below.refl _ _).alloc (Nat.le_refl _) _⟩
        · go_enter Try.func97, Try.ntmps97
          go_wp2_with fail
          go_ret
          exact ⟨by simp [right, he]; omega, (Below.refl _ _).alloc (Nat.le_refl _) _⟩
    · have hR := Lib.hid (right3 (v := ⟨k, n, s⟩) h1 h2)
      go_enter Try.func97, Try.ntmps97
      go_wp2_with fail
      go_loop [2, 3] (fun _ i => ∃ k : Nat, k ≤ s.length ∧ i = .int .i64 k ∧ Hid ((s.take k).all okC = true)) (fun _ i => s.length - (intOf i).toNat)
      case atStart => exact ⟨0, by omega, rfl, Lib.hid (by simp)⟩
      case round =>
        obtain ⟨j, hk, rfl, H⟩ := hrel
        by_cases hlt : j < s.length
        · have hn := Lib.hid (all_step hlt H.out)
          have hno := Lib.hid (all_no hlt)
          generalize hc : s[j] = c at hn hno
          have hx := ba_at s j hlt hc
          cases ho : okC c
          · rcases okC_no ho with h1 | ⟨h1, h2⟩
            all_goals
              go_wp2_with fail
              go_ret
              exact ⟨by rw [hR.out]; simp [hno.out ho], (Below.refl _ _).alloc (Nat.le_refl _) _⟩
          · obtain ⟨h1, h2⟩ := okC_yes ho
            go_wp2_with fail
            go_round
            case rel => exact ⟨j + 1, by omega, by go_num, Lib.hid (by rw [hn.out, ho])⟩
            case measure => simp [intOf]; omega
        · obtain rfl : j = s.length := by omega
          have he := Lib.hid (all_end H.out)
          by_cases h3 : k = 3
          · subst h3
            by_cases h0 : n = 0
            · subst h0
              go_wp2_with fail
              go_ret
              exact ⟨by rw [hR.out, he.out]; simp, (Below.refl _ _).alloc (Nat.le_refl _) _⟩
            · go_wp2_with fail
              go_ret
              exact ⟨by rw [hR.out]; simp [h0], (Below.refl _ _).alloc (Nat.le_refl _) _⟩
          · go_wp2_with fail
            go_ret
            exact ⟨by rw [hR.out]; simp [h3], (Below.refl _ _).alloc (Nat.le_refl _) _⟩
end Go.Proofs.Ytpkoijlbbfffiaa.V
