/- The contracts of the lexer's small functions: what a byte may be, run, pass, gap. -/
import Derived.Test.YtpodniljpinigaaLexPlain
import Derived.Test.YtpodniljpinigaaShelfLex
import Derived.Test.YtpodniljpinigaaSched
import Derived.Test.YtpodniljpinigaaValFns
import Derived.IntWalk
namespace Go.Proofs.Ytpodniljpinigaa.X
open Go.RowKit O V S

theorem heap_set {w : World} {b i : Nat} {cs : Array Value} {T : TypeId} (hb : w.heap[b]? = some (.cells cs T (0, 0))) (v : Value) : (w.setCell ⟨b, i, none⟩ v).heap[b]? = some (.cells (cs.setIfInBounds i v) T (0, 0)) := by
  simp [World.setCell, Array.getElem?_modify, hb]
theorem gb_trans {a b c : World} {row : Option Nat} (h : a.grownBy b row) (k : b.grownBy c row) : a.grownBy c row :=
  ⟨k.os.trans h.os, k.tape.trans h.tape, k.output.trans h.output, Nat.le_trans h.size k.size, fun i hi hne => (k.block i (Nat.lt_of_lt_of_le hi h.size) hne).trans (h.block i hi hne)⟩
theorem gb_below {a b : World} (h : Below a.heap.size a b) (row : Option Nat) : a.grownBy b row := ⟨h.os, h.tape, h.output, h.size, fun i hi _ => h.block i hi⟩
theorem gb_set (w : World) (g j : Nat) (v : Value) : w.grownBy (w.setCell ⟨g, j, none⟩ v) (some g) := ⟨rfl, rfl, rfl, by simp, fun i _ hi => Below.heap_setCell _ _ _ _ (fun e => hi (by rw [e]))⟩
def isN (c : UInt8) (n : Nat) : Bool := decide (c.toNat = n)
theorem isN_b {c : UInt8} {n : Nat} {b : Bool} (h : isN c n = b) : ((c.toNat : Int) == (n : Int)) = b := by
  subst h; unfold isN; rw [Bool.eq_iff_iff]; simp; omega
theorem lblank_any (c : UInt8) (w : World) : Calls Try.prog 56 #[.int .u8 (c.toNat : Int)] w fun e w' => e = .returned (.bool (blankC c)) ∧ w = w' := by
  have hb : blankC c = (isN c 32 || (isN c 9 || (isN c 10 || isN c 13))) := rfl
  cases h1 : isN c 32
  · cases h2 : isN c 9
    · cases h3 : isN c 10
      · cases h4 : isN c 13
        all_goals
          have e1 := isN_b h1
          have e2 := isN_b h2
          have e3 := isN_b h3
          have e4 := isN_b h4
          have HB := Lib.hid (show blankC c = _ by rw [hb, h1, h2, h3, h4])
          clear h1 h2 h3 h4 hb
          simp only [Int.cast_ofNat_Int] at e1 e2 e3 e4
          go_enter Try.func56, Try.ntmps56
          go_wp2_with fail
          go_ret
          exact ⟨by rw [HB.out]; rfl, rfl⟩
      · have e1 := isN_b h1
        have e2 := isN_b h2
        have e3 := isN_b h3
        have HB := Lib.hid (show blankC c = true by rw [hb, h1, h2, h3]; rfl)
        clear h1 h2 h3 hb
        simp only [Int.cast_ofNat_Int] at e1 e2 e3
        go_enter Try.func56, Try.ntmps56
        go_wp2_with fail
        go_ret
        exact ⟨by rw [HB.out]; rfl, rfl⟩
    · have e1 := isN_b h1
      have e2 := isN_b h2
      have HB := Lib.hid (show blankC c = true by rw [hb, h1, h2]; rfl)
      clear h1 h2 hb
      simp only [Int.cast_ofNat_Int] at e1 e2
      go_enter Try.func56, Try.ntmps56
      go_wp2_with fail
      go_ret
      exact ⟨by rw [HB.out]; rfl, rfl⟩
  · have e1 := isN_b h1
    have HB := Lib.hid (show blankC c = true by rw [hb, h1]; rfl)
    clear h1 hb
    simp only [Int.cast_ofNat_Int] at e1
    go_enter Try.func56, Try.ntmps56
    go_wp2_with fail
    go_ret
    exact ⟨by rw [HB.out]; rfl, rfl⟩
theorem lsmall_any (c : UInt8) (w : World) : Calls Try.prog 59 #[.int .u8 (c.toNat : Int)] w fun e w' => e = .returned (.bool (smallC c)) ∧ w = w' := by
  by_cases h1 : (c.toNat : Int) ≥ 97
  · have d1 : decide ((c.toNat : Int) ≥ 97) = true := by simp; omega
    by_cases h2 : (c.toNat : Int) ≤ 122
    · have d2 : decide ((c.toNat : Int) ≤ 122) = true := by simp; omega
      have HB := Lib.hid (show smallC c = true by unfold smallC; simp; omega)
      clear h1 h2
      go_enter Try.func59, Try.ntmps59
      go_wp2_with fail
      go_ret
      exact ⟨by rw [HB.out]; rfl, rfl⟩
    · have d2 : decide ((c.toNat : Int) ≤ 122) = false := by simp; omega
      have HB := Lib.hid (show smallC c = false by unfold smallC; simp; omega)
      clear h1 h2
      go_enter Try.func59, Try.ntmps59
      go_wp2_with fail
      go_ret
      exact ⟨by rw [HB.out]; rfl, rfl⟩
  · have d1 : decide ((c.toNat : Int) ≥ 97) = false := by simp; omega
    have HB := Lib.hid (show smallC c = false by unfold smallC; simp; omega)
    clear h1
    go_enter Try.func59, Try.ntmps59
    go_wp2_with fail
    go_ret
    exact ⟨by rw [HB.out]; rfl, rfl⟩
theorem ldigit_any (c : UInt8) (w : World) : Calls Try.prog 61 #[.int .u8 (c.toNat : Int)] w fun e w' => e = .returned (.bool (digitC c)) ∧ w = w' := by
  by_cases h1 : (c.toNat : Int) ≥ 48
  · have d1 : decide ((c.toNat : Int) ≥ 48) = true := by simp; omega
    by_cases h2 : (c.toNat : Int) ≤ 57
    · have d2 : decide ((c.toNat : Int) ≤ 57) = true := by simp; omega
      have HB := Lib.hid (show digitC c = true by unfold digitC; simp; omega)
      clear h1 h2
      go_enter Try.func61, Try.ntmps61
      go_wp2_with fail
      go_ret
      exact ⟨by rw [HB.out]; rfl, rfl⟩
    · have d2 : decide ((c.toNat : Int) ≤ 57) = false := by simp; omega
      have HB := Lib.hid (show digitC c = false by unfold digitC; simp; omega)
      clear h1 h2
      go_enter Try.func61, Try.ntmps61
      go_wp2_with fail
      go_ret
      exact ⟨by rw [HB.out]; rfl, rfl⟩
  · have d1 : decide ((c.toNat : Int) ≥ 48) = false := by simp; omega
    have HB := Lib.hid (show digitC c = false by unfold digitC; simp; omega)
    clear h1
    go_enter Try.func61, Try.ntmps61
    go_wp2_with fail
    go_ret
    exact ⟨by rw [HB.out]; rfl, rfl⟩
theorem lnote_any (c : UInt8) (w : World) : Calls Try.prog 57 #[.int .u8 (c.toNat : Int)] w fun e w' => e = .returned (.bool (noteC c)) ∧ w = w' := by
  by_cases h : c.toNat = 10
  · have d : ((c.toNat : Int) != 10) = false := by simp; omega
    have d' : ((c.toNat : Int) == 10) = true := by simp; omega
    have HB := Lib.hid (show noteC c = false by unfold noteC; simp; omega)
    clear h
    go_enter Try.func57, Try.ntmps57
    go_wp2_with fail
    go_ret
    exact ⟨by rw [HB.out]; rfl, rfl⟩
  · have d : ((c.toNat : Int) != 10) = true := by simp; omega
    have d' : ((c.toNat : Int) == 10) = false := by simp; omega
    have HB := Lib.hid (show noteC c = true by unfold noteC; simp; omega)
    clear h
    go_enter Try.func57, Try.ntmps57
    go_wp2_with fail
    go_ret
    exact ⟨by rw [HB.out]; rfl, rfl⟩
theorem lword_any (c : UInt8) (w : World) : Calls Try.prog 60 #[.int .u8 (c.toNat : Int)] w fun e w' => e = .returned (.bool (wordC c)) ∧ w = w' := by
  have hb : wordC c = (smallC c || (digitC c || isN c 95)) := rfl
  have HB := Lib.hid hb
  clear hb
  cases h3 : isN c 95
  all_goals
    have e3 := isN_b h3
    have H3 := Lib.hid h3
    clear h3
    simp only [Int.cast_ofNat_Int] at e3
    go_enter Try.func60, Try.ntmps60
    go_wp2_with fail
    refine (lsmall_any c _).mono ?_; rintro e w1 ⟨rfl, rfl⟩
    cases h1 : smallC c
    · go_wp2_with fail
      refine (ldigit_any c _).mono ?_; rintro e w2 ⟨rfl, rfl⟩
      cases h2 : digitC c
      · go_wp2_with fail
        go_ret
        exact ⟨by rw [HB.out, h1, h2, H3.out]; rfl, rfl⟩
      · go_wp2_with fail
        go_ret
        exact ⟨by rw [HB.out, h1, h2]; rfl, rfl⟩
    · go_wp2_with fail
      go_ret
      exact ⟨by rw [HB.out, h1]; rfl, rfl⟩
end Go.Proofs.Ytpodniljpinigaa.X
