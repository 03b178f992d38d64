/- The contracts of package value's plain, Right, RightType, Zero, Fits, Int, Bool, Text, and of the reference's Right. -/
import Derived.Test.YtpkoijlbbfffiaaValPlain
import Derived.Test.YtpkoijlbbfffiaaLaws
import Derived.Outline
import Derived.Lib.Builder
namespace Go.Proofs.Ytpkoijlbbfffiaa.V
open Go.RowKit O

theorem box_next {w w' : World} {g : Nat} {o : Obj} (h : w.heap[g]? = some o) (b : Below w.heap.size w w') : w'.heap[g]? = some o := by
  have hg : g < w.heap.size := (Array.getElem?_eq_some_iff.1 h).1
  rw [b.block g hg]; exact h
theorem alloc_at {w : World} {o : Obj} {k : Nat} (h : k = w.heap.size) : (w.alloc o).heap[k]? = some o := by subst h; exact heap_alloc_new w o
theorem alloc_old' {w : World} {o x : Obj} {k : Nat} (h : w.heap[k]? = some x) : (w.alloc o).heap[k]? = some x := by
  rw [Lib.alloc_old w o k (Array.getElem?_eq_some_iff.1 h).1]; exact h
/-- A value as the program has it. -/
def vv (v : Val) : Value := .agg #[.int .i64 v.k, .int .i64 v.n, .string ⟨v.s.toArray⟩]
theorem all_step {s : List UInt8} {k : Nat} (h : k < s.length) (ha : (s.take k).all okC = true) : (s.take (k + 1)).all okC = okC s[k] := by
  rw [List.take_succ_eq_append_getElem h, List.all_append, ha]
  simp
theorem all_no {s : List UInt8} {k : Nat} (h : k < s.length) (hc : okC s[k] = false) : plainL s = false := by
  unfold plainL
  have : s.all okC = false := by
    rw [List.all_eq_false]
    exact ⟨s[k], List.getElem_mem h, by simp [hc]⟩
  rw [this]; rfl
theorem ba_at (s : List UInt8) (k : Nat) (h : k < s.length) {c : UInt8} (hc : s[k] = c) : (ByteArray.mk s.toArray)[k]'(by simpa [ByteArray.size] using h) = c := hc
theorem okC_yes {c : UInt8} (h : okC c = true) : 32 ≤ (c.toNat : Int) ∧ (c.toNat : Int) ≤ 126 := by simp [okC] at h; omega
theorem okC_no {c : UInt8} (h : okC c = false) : (c.toNat : Int) < 32 ∨ (32 ≤ (c.toNat : Int) ∧ 126 < (c.toNat : Int)) := by simp [okC] at h; omega
theorem all_end {s : List UInt8} (h : (s.take s.length).all okC = true) : plainL s = decide ((s.length : Int) ≤ 32) := by
  rw [List.take_length] at h
  unfold plainL
  rw [h]
  simp
  omega
set_option maxHeartbeats 1000000 in
theorem plain_any (s : List UInt8) (w : World) (hs : s.length ≤ 1000000000000) : Calls Try.prog 68 #[.string ⟨s.toArray⟩] w fun e w' => e = .returned (.bool (plainL s)) ∧ w = w' := by
  have hsz : (ByteArray.mk s.toArray).size = s.length := by simp [ByteArray.size]
  go_enter Try.func68, Try.ntmps68
  go_wp2_with fail
  go_loop [2, 3, 6] (fun _ _ i => ∃ k : Nat, k ≤ s.length ∧ i = .int .i64 k ∧ Hid ((s.take k).all okC = true)) (fun _ _ i => s.length - (intOf i).toNat)
  case atStart => exact ⟨0, by omega, rfl, Lib.hid (by simp)⟩
  case round =>
    obtain ⟨k, hk, rfl, H⟩ := hrel
    by_cases hlt : k < s.length
    · have hn := Lib.hid (all_step hlt H.out)
      have hno := Lib.hid (all_no hlt)
      generalize hc : s[k] = c at hn hno
      have hx := ba_at s k hlt hc
      cases ho : okC c
      · rcases okC_no ho with h1 | ⟨h1, h2⟩
        all_goals
          go_wp2_with fail
          go_ret
          exact ⟨by rw [hno.out ho]; rfl, rfl⟩
      · obtain ⟨h1, h2⟩ := okC_yes ho
        go_wp2_with fail
        go_round
        case rel => exact ⟨k + 1, by omega, by go_num, Lib.hid (by rw [hn.out, ho])⟩
        case measure => simp [intOf]; omega
    · obtain rfl : k = s.length := by omega
      have he := Lib.hid (all_end H.out)
      go_wp2_with fail
      go_ret
      exact ⟨by rw [he.out]; rfl, rfl⟩

theorem bool_n (n : Int) : (n == 0 || n == 1) = (n == 0 || (n == 1)) := rfl
set_option maxHeartbeats 1000000 in
theorem right_any (v : Val) (w : World) (hs : v.s.length ≤ 1000000000000) : Calls Try.prog 18 #[vv v] w fun e w' => e = .returned (.bool (right v)) ∧ Below w.heap.size w w' := by
  obtain ⟨k, n, s⟩ := v
  simp only [vv]
  by_cases h1 : k = 1
  · subst h1
    go_enter Try.func18, Try.ntmps18
    go_wp2_with fail
    go_ret
    exact ⟨by simp [right], (Below.refl _ _).alloc (Nat.le_refl _) _⟩
  · by_cases h2 : k = 2
    · subst h2
      cases he : s.isEmpty
      · go_enter Try.func18, Try.ntmps18
        go_wp2_with fail
        go_ret
        exact ⟨by simp [right, he], (Below.refl _ _).alloc (Nat.le_refl _) _⟩
      · by_cases h0 : n = 0
        · subst h0
          go_enter Try.func18, Try.ntmps18
          go_wp2_with fail
          go_ret
          exact ⟨by simp [right, he], (Below.refl _ _).alloc (Nat.le_refl _) _⟩
        · go_enter Try.func18, Try.ntmps18
          go_wp2_with fail
          go_ret
          exact ⟨by simp [right, he, h0], (Below.refl _ _).alloc (Nat.le_refl _) _⟩
    · by_cases h3 : k = 3
      · subst h3
        by_cases h0 : n = 0
        · subst h0
          go_enter Try.func18, Try.ntmps18
          go_wp2_with fail
          refine (plain_any s _ hs).mono ?_; rintro e w1 ⟨rfl, rfl⟩
          go_wp2_with fail
          go_ret
          exact ⟨by simp [right], (Below.refl _ _).alloc (Nat.le_refl _) _⟩
        · go_enter Try.func18, Try.ntmps18
          go_wp2_with fail
          go_ret
          exact ⟨by simp [right, h0], (Below.refl _ _).alloc (Nat.le_refl _) _⟩
      · go_enter Try.func18, Try.ntmps18
        go_wp2_with fail
        go_ret
        exact ⟨by simp [right, h1, h2, h3], (Below.refl _ _).alloc (Nat.le_refl _) _⟩

/-- A type: its kind, and how many bytes. -/
def tv (k m : Int) : Value := .agg #[.int .i64 k, .int .i64 m]
def rightT (k m : Int) : Bool := ((k == 1 || k == 2) && m == 0) || (k == 3 && decide (1 ≤ m) && decide (m ≤ 32))
set_option maxHeartbeats 1000000 in
theorem rightType_any (k m : Int) (w : World) : Calls Try.prog 20 #[tv k m] w fun e w' => e = .returned (.bool (rightT k m)) ∧ Below w.heap.size w w' := by
  simp only [tv]
  by_cases h1 : k = 1
  · subst h1
    go_enter Try.func20, Try.ntmps20
    go_wp2_with fail
    go_ret
    exact ⟨by simp [rightT], (Below.refl _ _).alloc (Nat.le_refl _) _⟩
  · by_cases h2 : k = 2
    · subst h2
      go_enter Try.func20, Try.ntmps20
      go_wp2_with fail
      go_ret
      exact ⟨by simp [rightT], (Below.refl _ _).alloc (Nat.le_refl _) _⟩
    · by_cases h3 : k = 3
      · subst h3
        by_cases h0 : 1 ≤ m
        · go_enter Try.func20, Try.ntmps20
          go_wp2_with fail
          go_ret
          exact ⟨by simp [rightT, h0], (Below.refl _ _).alloc (Nat.le_refl _) _⟩
        · go_enter Try.func20, Try.ntmps20
          go_wp2_with fail
          go_ret
          exact ⟨by simp [rightT]; omega, (Below.refl _ _).alloc (Nat.le_refl _) _⟩
      · go_enter Try.func20, Try.ntmps20
        go_wp2_with fail
        go_ret
        exact ⟨by simp [rightT, h1, h2, h3], (Below.refl _ _).alloc (Nat.le_refl _) _⟩
def zeroT (k m : Int) : Val := if rightT k m then ⟨k, 0, []⟩ else ⟨0, 0, []⟩
set_option maxHeartbeats 1000000 in
theorem zero_any (k m : Int) (w : World) : Calls Try.prog 21 #[tv k m] w fun e w' => e = .returned (vv (zeroT k m)) ∧ Below w.heap.size w w' := by
  simp only [tv]
  cases hr : rightT k m
  · have hz : zeroT k m = ⟨0, 0, []⟩ := by simp [zeroT, hr]
    have Hhz := Lib.hid hz; clear hz
    go_enter Try.func21, Try.ntmps21
    go_wp2_with fail
    refine (rightType_any k m _).mono ?_; rintro e w1 ⟨rfl, b1⟩
    have x : w1.heap[(w.heap.size + 1)]? = some (.cells #[.int .i64 0, .int .i64 0, .string ⟨#[]⟩] 23 (0, 0)) := box_next (by repeat (first | (refine alloc_at ?_; simp; done) | refine alloc_old' ?_)) b1
    have xc0 : w1.cell? ⟨(w.heap.size + 1), 0, none⟩ = some (.int .i64 0) := by rw [Lib.cell_of_heap x]; rfl
    have xf0 : w1.frozen? ⟨(w.heap.size + 1), 0, none⟩ = false := Lib.frozen_of_heap x 0
    have xc1 : w1.cell? ⟨(w.heap.size + 1), 1, none⟩ = some (.int .i64 0) := by rw [Lib.cell_of_heap x]; rfl
    have xf1 : w1.frozen? ⟨(w.heap.size + 1), 1, none⟩ = false := Lib.frozen_of_heap x 1
    have xc2 : w1.cell? ⟨(w.heap.size + 1), 2, none⟩ = some (.string ⟨#[]⟩) := by rw [Lib.cell_of_heap x]; rfl
    have xf2 : w1.frozen? ⟨(w.heap.size + 1), 2, none⟩ = false := Lib.frozen_of_heap x 2
    go_wp2_with fail
    have B1 : Below w.heap.size w w1 := bthen (by repeat (first | exact Below.refl _ _ | refine Below.alloc ?_ (by simp <;> omega) _)) b1
    refine bodyPost_ret (v := vv ⟨0, 0, []⟩) (by simp [results, Try.results21, go_sem, vv, xc0, xc1, xc2]) rfl ?_
    refine ⟨by rw [Hhz.out], ?_⟩
    repeat (first | (with_reducible exact Below.refl _ _) | (with_reducible assumption) | refine Below.setCell ?_ (by simp <;> omega) _ | refine Below.alloc ?_ (by simp <;> omega) _ | refine Below.drew ?_)
  · have hz : zeroT k m = ⟨k, 0, []⟩ := by simp [zeroT, hr]
    have Hhz := Lib.hid hz; clear hz
    go_enter Try.func21, Try.ntmps21
    go_wp2_with fail
    refine (rightType_any k m _).mono ?_; rintro e w1 ⟨rfl, b1⟩
    have x : w1.heap[(w.heap.size + 1)]? = some (.cells #[.int .i64 0, .int .i64 0, .string ⟨#[]⟩] 23 (0, 0)) := box_next (by repeat (first | (refine alloc_at ?_; simp; done) | refine alloc_old' ?_)) b1
    have xc0 : w1.cell? ⟨(w.heap.size + 1), 0, none⟩ = some (.int .i64 0) := by rw [Lib.cell_of_heap x]; rfl
    have xf0 : w1.frozen? ⟨(w.heap.size + 1), 0, none⟩ = false := Lib.frozen_of_heap x 0
    have xc1 : w1.cell? ⟨(w.heap.size + 1), 1, none⟩ = some (.int .i64 0) := by rw [Lib.cell_of_heap x]; rfl
    have xf1 : w1.frozen? ⟨(w.heap.size + 1), 1, none⟩ = false := Lib.frozen_of_heap x 1
    have xc2 : w1.cell? ⟨(w.heap.size + 1), 2, none⟩ = some (.string ⟨#[]⟩) := by rw [Lib.cell_of_heap x]; rfl
    have xf2 : w1.frozen? ⟨(w.heap.size + 1), 2, none⟩ = false := Lib.frozen_of_heap x 2
    have y : w1.heap[w.heap.size]? = some (.cells #[.int .i64 k, .int .i64 m] 25 (0, 0)) := box_next (by repeat (first | (refine alloc_at ?_; simp; done) | refine alloc_old' ?_)) b1
    have yc0 : w1.cell? ⟨w.heap.size, 0, none⟩ = some (.int .i64 k) := by rw [Lib.cell_of_heap y]; rfl
    have yf0 : w1.frozen? ⟨w.heap.size, 0, none⟩ = false := Lib.frozen_of_heap y 0
    have yc1 : w1.cell? ⟨w.heap.size, 1, none⟩ = some (.int .i64 m) := by rw [Lib.cell_of_heap y]; rfl
    have yf1 : w1.frozen? ⟨w.heap.size, 1, none⟩ = false := Lib.frozen_of_heap y 1
    go_wp2_with fail
    have B1 : Below w.heap.size w w1 := bthen (by repeat (first | exact Below.refl _ _ | refine Below.alloc ?_ (by simp <;> omega) _)) b1
    refine bodyPost_ret (v := vv ⟨k, 0, []⟩) (by simp [results, Try.results21, go_sem, vv, xc0, xc1, xc2]) rfl ?_
    refine ⟨by rw [Hhz.out], ?_⟩
    repeat (first | (with_reducible exact Below.refl _ _) | (with_reducible assumption) | refine Below.setCell ?_ (by simp <;> omega) _ | refine Below.alloc ?_ (by simp <;> omega) _ | refine Below.drew ?_)
end Go.Proofs.Ytpkoijlbbfffiaa.V
