/- Texts of the proof, joined: ValFns, LexFns, LexRun, LexPass. -/
import Derived.Test.YtnbmpfdffoidaaaGreatSp01
import Derived.Test.YtnbmpfdffoidaaaGreatSp02
import Derived.Outline
import Derived.Lib.Builder
import Derived.IntWalk
import Derived.Lib.LastIndexByte
import Derived.StillTailTactics
set_option linter.unusedVariables false
set_option linter.unusedSimpArgs false
set_option maxHeartbeats 8000000
set_option maxRecDepth 100000
namespace Go.Proofs.YtnbmpfdffoidaaaGreat.V
open Go.RowKit O
theorem box_next {w w' : World} {g : Nat} {o : Obj} (h : w.heap[g]? = some o) (b : Below w.heap.size w w') : w'.heap[g]? = some o := by
 have hg : g < w.heap.size := (Array.getElem?_eq_some_iff.1 h).1
 rw [b.block g hg]; exact h
theorem alloc_at {w : World} {o : Obj} {k : Nat} (h : k = w.heap.size) : (w.alloc o).heap[k]? = some o := by subst h; exact heap_alloc_new w o
theorem alloc_old' {w : World} {o x : Obj} {k : Nat} (h : w.heap[k]? = some x) : (w.alloc o).heap[k]? = some x := by
 rw [Lib.alloc_old w o k (Array.getElem?_eq_some_iff.1 h).1]; exact h
def vv (v : Val) : Value := .agg #[.int .i64 v.k, .int .i64 v.n, .string ⟨v.s.toArray⟩]
theorem all_step {s : List UInt8} {k : Nat} (h : k < s.length) (ha : (s.take k).all okC = true) : (s.take (k + 1)).all okC = okC s[k] := by
 rw [List.take_succ_eq_append_getElem h, List.all_append, ha]
 simp
theorem all_no {s : List UInt8} {k : Nat} (h : k < s.length) (hc : okC s[k] = false) : plainL s = false := by
 unfold plainL
 have : s.all okC = false := by
  rw [List.all_eq_false]
  exact ⟨s[k], List.getElem_mem h, by simp [hc]⟩
 rw [this]; rfl
theorem ba_at (s : List UInt8) (k : Nat) (h : k < s.length) {c : UInt8} (hc : s[k] = c) : (ByteArray.mk s.toArray)[k]'(by simpa [ByteArray.size] using h) = c := hc
theorem okC_yes {c : UInt8} (h : okC c = true) : 32 ≤ (c.toNat : Int) ∧ (c.toNat : Int) ≤ 126 := by simp [okC] at h; omega
theorem okC_no {c : UInt8} (h : okC c = false) : (c.toNat : Int) < 32 ∨ (32 ≤ (c.toNat : Int) ∧ 126 < (c.toNat : Int)) := by simp [okC] at h; omega
theorem all_end {s : List UInt8} (h : (s.take s.length).all okC = true) : plainL s = decide ((s.length : Int) ≤ 32) := by
 rw [List.take_length] at h
 unfold plainL
 rw [h]
 simp
 omega
theorem plain_any (s : List UInt8) (w : World) (hs : s.length ≤ 1000000000000) : Calls Tryz.prog 100 #[.string ⟨s.toArray⟩] w fun e w' => e = .returned (.bool (plainL s)) ∧ w = w' := by
 have hsz : (ByteArray.mk s.toArray).size = s.length := by simp [ByteArray.size]
 go_enter Tryz.func100, Tryz.ntmps100
 go_wp2_with fail
 go_loop [2, 3, 6] (fun _ _ i => ∃ k : Nat, k ≤ s.length ∧ i = .int .i64 k ∧ Hid ((s.take k).all okC = true)) (fun _ _ i => s.length - (intOf i).toNat)
 case atStart => exact ⟨0, by omega, rfl, Lib.hid (by simp)⟩
 case round =>
  obtain ⟨k, hk, rfl, H⟩ := hrel
  by_cases hlt : k < s.length
  ·have hn := Lib.hid (all_step hlt H.out)
   have hno := Lib.hid (all_no hlt)
   generalize hc : s[k] = c at hn hno
   have hx := ba_at s k hlt hc
   cases ho : okC c
   ·rcases okC_no ho with h1 | ⟨h1, h2⟩
    all_goals
     go_wp2_with fail
     go_ret
     exact ⟨by rw [hno.out ho]; rfl, rfl⟩
   ·obtain ⟨h1, h2⟩ := okC_yes ho
    go_wp2_with fail
    go_round
    case rel => exact ⟨k + 1, by omega, by go_num, Lib.hid (by rw [hn.out, ho])⟩
    case measure => simp [intOf]; omega
  ·obtain rfl : k = s.length := by omega
   have he := Lib.hid (all_end H.out)
   go_wp2_with fail
   go_ret
   exact ⟨by rw [he.out]; rfl, rfl⟩
theorem right_any (v : Val) (w : World) (hs : v.s.length ≤ 1000000000000) : Calls Tryz.prog 80 #[vv v] w fun e w' => e = .returned (.bool (right v)) ∧ Below w.heap.size w w' := by
 obtain ⟨k, n, s⟩ := v
 simp only [vv]
 by_cases h1 : k = 1
 ·subst h1
  go_enter Tryz.func80, Tryz.ntmps80
  go_wp2_with fail
  go_ret
  exact ⟨by simp [right], (Below.refl _ _).alloc (Nat.le_refl _) _⟩
 ·by_cases h2 : k = 2
  ·subst h2
   cases he : s.isEmpty
   ·go_enter Tryz.func80, Tryz.ntmps80
    go_wp2_with fail
    go_ret
    exact ⟨by simp [right, he], (Below.refl _ _).alloc (Nat.le_refl _) _⟩
   ·by_cases h0 : n = 0
    ·subst h0
     go_enter Tryz.func80, Tryz.ntmps80
     go_wp2_with fail
     go_ret
     exact ⟨by simp [right, he], (Below.refl _ _).alloc (Nat.le_refl _) _⟩
    ·go_enter Tryz.func80, Tryz.ntmps80
     go_wp2_with fail
     go_ret
     exact ⟨by simp [right, he, h0], (Below.refl _ _).alloc (Nat.le_refl _) _⟩
  ·by_cases h3 : k = 3
   ·subst h3
    by_cases h0 : n = 0
    ·subst h0
     go_enter Tryz.func80, Tryz.ntmps80
     go_wp2_with fail
     refine (plain_any s _ hs).mono ?_; rintro e w1 ⟨rfl, rfl⟩
     go_wp2_with fail
     go_ret
     exact ⟨by simp [right], (Below.refl _ _).alloc (Nat.le_refl _) _⟩
    ·go_enter Tryz.func80, Tryz.ntmps80
     go_wp2_with fail
     go_ret
     exact ⟨by simp [right, h0], (Below.refl _ _).alloc (Nat.le_refl _) _⟩
   ·go_enter Tryz.func80, Tryz.ntmps80
    go_wp2_with fail
    go_ret
    exact ⟨by simp [right, h1, h2, h3], (Below.refl _ _).alloc (Nat.le_refl _) _⟩
def tv (k m : Int) : Value := .agg #[.int .i64 k, .int .i64 m]
def rightT (k m : Int) : Bool := ((k == 1 || k == 2) && m == 0) || (k == 3 && decide (1 ≤ m) && decide (m ≤ 32))
theorem rightType_any (k m : Int) (w : World) : Calls Tryz.prog 111 #[tv k m] w fun e w' => e = .returned (.bool (rightT k m)) ∧ Below w.heap.size w w' := by
 simp only [tv]
 by_cases h1 : k = 1
 ·subst h1
  go_enter Tryz.func111, Tryz.ntmps111
  go_wp2_with fail
  go_ret
  exact ⟨by simp [rightT], (Below.refl _ _).alloc (Nat.le_refl _) _⟩
 ·by_cases h2 : k = 2
  ·subst h2
   go_enter Tryz.func111, Tryz.ntmps111
   go_wp2_with fail
   go_ret
   exact ⟨by simp [rightT], (Below.refl _ _).alloc (Nat.le_refl _) _⟩
  ·by_cases h3 : k = 3
   ·subst h3
    by_cases h0 : 1 ≤ m
    ·go_enter Tryz.func111, Tryz.ntmps111
     go_wp2_with fail
     go_ret
     exact ⟨by simp [rightT, h0], (Below.refl _ _).alloc (Nat.le_refl _) _⟩
    ·go_enter Tryz.func111, Tryz.ntmps111
     go_wp2_with fail
     go_ret
     exact ⟨by simp [rightT]; omega, (Below.refl _ _).alloc (Nat.le_refl _) _⟩
   ·go_enter Tryz.func111, Tryz.ntmps111
    go_wp2_with fail
    go_ret
    exact ⟨by simp [rightT, h1, h2, h3], (Below.refl _ _).alloc (Nat.le_refl _) _⟩
def zeroT (k m : Int) : Val := if rightT k m then ⟨k, 0, []⟩ else ⟨0, 0, []⟩
end Go.Proofs.YtnbmpfdffoidaaaGreat.V
namespace Go.Proofs.YtnbmpfdffoidaaaGreat.X
open Go.RowKit O V S
theorem heap_set {w : World} {b i : Nat} {cs : Array Value} {T : TypeId} (hb : w.heap[b]? = some (.cells cs T (0, 0))) (v : Value) : (w.setCell ⟨b, i, none⟩ v).heap[b]? = some (.cells (cs.setIfInBounds i v) T (0, 0)) := by
 simp [World.setCell, Array.getElem?_modify, hb]
theorem gb_trans {a b c : World} {row : Option Nat} (h : a.grownBy b row) (k : b.grownBy c row) : a.grownBy c row :=
 ⟨k.os.trans h.os, k.tape.trans h.tape, k.output.trans h.output, Nat.le_trans h.size k.size, fun i hi hne => (k.block i (Nat.lt_of_lt_of_le hi h.size) hne).trans (h.block i hi hne)⟩
theorem gb_below {a b : World} (h : Below a.heap.size a b) (row : Option Nat) : a.grownBy b row := ⟨h.os, h.tape, h.output, h.size, fun i hi _ => h.block i hi⟩
theorem gb_set (w : World) (g j : Nat) (v : Value) : w.grownBy (w.setCell ⟨g, j, none⟩ v) (some g) := ⟨rfl, rfl, rfl, by simp, fun i _ hi => Below.heap_setCell _ _ _ _ (fun e => hi (by rw [e]))⟩
def isN (c : UInt8) (n : Nat) : Bool := decide (c.toNat = n)
theorem isN_b {c : UInt8} {n : Nat} {b : Bool} (h : isN c n = b) : ((c.toNat : Int) == (n : Int)) = b := by
 subst h; unfold isN; rw [Bool.eq_iff_iff]; simp; omega
theorem lblank_any (c : UInt8) (w : World) : Calls Tryz.prog 56 #[.int .u8 (c.toNat : Int)] w fun e w' => e = .returned (.bool (blankC c)) ∧ w = w' := by
 have hb : blankC c = (isN c 32 || (isN c 9 || (isN c 10 || isN c 13))) := rfl
 cases h1 : isN c 32
 ·cases h2 : isN c 9
  ·cases h3 : isN c 10
   ·cases h4 : isN c 13
    all_goals
     have e1 := isN_b h1
     have e2 := isN_b h2
     have e3 := isN_b h3
     have e4 := isN_b h4
     have HB := Lib.hid (show blankC c = _ by rw [hb, h1, h2, h3, h4])
     clear h1 h2 h3 h4 hb
     simp only [Int.cast_ofNat_Int] at e1 e2 e3 e4
     go_enter Tryz.func56, Tryz.ntmps56
     go_wp2_with fail
     go_ret
     exact ⟨by rw [HB.out]; rfl, rfl⟩
   ·have e1 := isN_b h1
    have e2 := isN_b h2
    have e3 := isN_b h3
    have HB := Lib.hid (show blankC c = true by rw [hb, h1, h2, h3]; rfl)
    clear h1 h2 h3 hb
    simp only [Int.cast_ofNat_Int] at e1 e2 e3
    go_enter Tryz.func56, Tryz.ntmps56
    go_wp2_with fail
    go_ret
    exact ⟨by rw [HB.out]; rfl, rfl⟩
  ·have e1 := isN_b h1
   have e2 := isN_b h2
   have HB := Lib.hid (show blankC c = true by rw [hb, h1, h2]; rfl)
   clear h1 h2 hb
   simp only [Int.cast_ofNat_Int] at e1 e2
   go_enter Tryz.func56, Tryz.ntmps56
   go_wp2_with fail
   go_ret
   exact ⟨by rw [HB.out]; rfl, rfl⟩
 ·have e1 := isN_b h1
  have HB := Lib.hid (show blankC c = true by rw [hb, h1]; rfl)
  clear h1 hb
  simp only [Int.cast_ofNat_Int] at e1
  go_enter Tryz.func56, Tryz.ntmps56
  go_wp2_with fail
  go_ret
  exact ⟨by rw [HB.out]; rfl, rfl⟩
theorem lsmall_any (c : UInt8) (w : World) : Calls Tryz.prog 59 #[.int .u8 (c.toNat : Int)] w fun e w' => e = .returned (.bool (smallC c)) ∧ w = w' := by
 by_cases h1 : (c.toNat : Int) ≥ 97
 ·have d1 : decide ((c.toNat : Int) ≥ 97) = true := by simp; omega
  by_cases h2 : (c.toNat : Int) ≤ 122
  ·have d2 : decide ((c.toNat : Int) ≤ 122) = true := by simp; omega
   have HB := Lib.hid (show smallC c = true by unfold smallC; simp; omega)
   clear h1 h2
   go_enter Tryz.func59, Tryz.ntmps59
   go_wp2_with fail
   go_ret
   exact ⟨by rw [HB.out]; rfl, rfl⟩
  ·have d2 : decide ((c.toNat : Int) ≤ 122) = false := by simp; omega
   have HB := Lib.hid (show smallC c = false by unfold smallC; simp; omega)
   clear h1 h2
   go_enter Tryz.func59, Tryz.ntmps59
   go_wp2_with fail
   go_ret
   exact ⟨by rw [HB.out]; rfl, rfl⟩
 ·have d1 : decide ((c.toNat : Int) ≥ 97) = false := by simp; omega
  have HB := Lib.hid (show smallC c = false by unfold smallC; simp; omega)
  clear h1
  go_enter Tryz.func59, Tryz.ntmps59
  go_wp2_with fail
  go_ret
  exact ⟨by rw [HB.out]; rfl, rfl⟩
theorem ldigit_any (c : UInt8) (w : World) : Calls Tryz.prog 61 #[.int .u8 (c.toNat : Int)] w fun e w' => e = .returned (.bool (digitC c)) ∧ w = w' := by
 by_cases h1 : (c.toNat : Int) ≥ 48
 ·have d1 : decide ((c.toNat : Int) ≥ 48) = true := by simp; omega
  by_cases h2 : (c.toNat : Int) ≤ 57
  ·have d2 : decide ((c.toNat : Int) ≤ 57) = true := by simp; omega
   have HB := Lib.hid (show digitC c = true by unfold digitC; simp; omega)
   clear h1 h2
   go_enter Tryz.func61, Tryz.ntmps61
   go_wp2_with fail
   go_ret
   exact ⟨by rw [HB.out]; rfl, rfl⟩
  ·have d2 : decide ((c.toNat : Int) ≤ 57) = false := by simp; omega
   have HB := Lib.hid (show digitC c = false by unfold digitC; simp; omega)
   clear h1 h2
   go_enter Tryz.func61, Tryz.ntmps61
   go_wp2_with fail
   go_ret
   exact ⟨by rw [HB.out]; rfl, rfl⟩
 ·have d1 : decide ((c.toNat : Int) ≥ 48) = false := by simp; omega
  have HB := Lib.hid (show digitC c = false by unfold digitC; simp; omega)
  clear h1
  go_enter Tryz.func61, Tryz.ntmps61
  go_wp2_with fail
  go_ret
  exact ⟨by rw [HB.out]; rfl, rfl⟩
theorem lnote_any (c : UInt8) (w : World) : Calls Tryz.prog 57 #[.int .u8 (c.toNat : Int)] w fun e w' => e = .returned (.bool (noteC c)) ∧ w = w' := by
 by_cases h : c.toNat = 10
 ·have d : ((c.toNat : Int) != 10) = false := by simp; omega
  have d' : ((c.toNat : Int) == 10) = true := by simp; omega
  have HB := Lib.hid (show noteC c = false by unfold noteC; simp; omega)
  clear h
  go_enter Tryz.func57, Tryz.ntmps57
  go_wp2_with fail
  go_ret
  exact ⟨by rw [HB.out]; rfl, rfl⟩
 ·have d : ((c.toNat : Int) != 10) = true := by simp; omega
  have d' : ((c.toNat : Int) == 10) = false := by simp; omega
  have HB := Lib.hid (show noteC c = true by unfold noteC; simp; omega)
  clear h
  go_enter Tryz.func57, Tryz.ntmps57
  go_wp2_with fail
  go_ret
  exact ⟨by rw [HB.out]; rfl, rfl⟩
theorem lword_any (c : UInt8) (w : World) : Calls Tryz.prog 60 #[.int .u8 (c.toNat : Int)] w fun e w' => e = .returned (.bool (wordC c)) ∧ w = w' := by
 have hb : wordC c = (smallC c || (digitC c || isN c 95)) := rfl
 have HB := Lib.hid hb
 clear hb
 cases h3 : isN c 95
 all_goals
  have e3 := isN_b h3
  have H3 := Lib.hid h3
  clear h3
  simp only [Int.cast_ofNat_Int] at e3
  go_enter Tryz.func60, Tryz.ntmps60
  go_wp2_with fail
  refine (lsmall_any c _).mono ?_; rintro e w1 ⟨rfl, rfl⟩
  cases h1 : smallC c
  ·go_wp2_with fail
   refine (ldigit_any c _).mono ?_; rintro e w2 ⟨rfl, rfl⟩
   cases h2 : digitC c
   ·go_wp2_with fail
    go_ret
    exact ⟨by rw [HB.out, h1, h2, H3.out]; rfl, rfl⟩
   ·go_wp2_with fail
    go_ret
    exact ⟨by rw [HB.out, h1, h2]; rfl, rfl⟩
  ·go_wp2_with fail
   go_ret
   exact ⟨by rw [HB.out, h1]; rfl, rfl⟩
end Go.Proofs.YtnbmpfdffoidaaaGreat.X
namespace Go.Proofs.YtnbmpfdffoidaaaGreat.X
open Go.RowKit O V S
structure Lx (w : World) (g : Nat) (s : List UInt8) (i : Nat) : Prop where
 box : w.heap[g]? = some (.cells #[.int .i64 (i : Int), .int .i64 (lineOf s i : Int), .int .i64 (startOf s i : Int), .string ⟨s.toArray⟩] 91 (0, 0))
 i : i ≤ s.length
 n : s.length ≤ 20000
theorem Lx.lt {w : World} {g : Nat} {s : List UInt8} {i : Nat} (h : Lx w g s i) : g < w.heap.size := (Array.getElem?_eq_some_iff.1 h.box).1
theorem Lx.next {w W : World} {g : Nat} {s : List UInt8} {i : Nat} (h : Lx w g s i) (b : Below w.heap.size w W) : Lx W g s i := ⟨box_next h.box b, h.i, h.n⟩
theorem cells4 {W : World} {g : Nat} {x y z u : Value} {T : TypeId} (h : W.heap[g]? = some (.cells #[x, y, z, u] T (0, 0))) : (W.cell? ⟨g, 0, none⟩ = some x ∧ W.cell? ⟨g, 1, none⟩ = some y) ∧ W.cell? ⟨g, 2, none⟩ = some z ∧ W.cell? ⟨g, 3, none⟩ = some u :=
 ⟨⟨by rw [Lib.cell_of_heap h]; rfl, by rw [Lib.cell_of_heap h]; rfl⟩, by rw [Lib.cell_of_heap h]; rfl, by rw [Lib.cell_of_heap h]; rfl⟩
theorem run_step {p : UInt8 → Bool} {t : List UInt8} {k : Nat} (hk : k < t.length) (ha : (t.take k).all p = true) : runLen p t = if p t[k] then runLen p t else k := by
 split
 ·rfl
 ·rename_i h
  have hz : ∀ (k : Nat) (t : List UInt8) (hk : k < t.length), (t.take k).all p = true → p t[k] = false → runLen p t = k := by
   intro k
   induction k with
   | zero =>
    intro t hk _ hp
    match t, hk with
    | c :: r, _ => unfold runLen; rw [if_neg (by simpa using hp)]
   | succ k ih =>
    intro t hk ha hp
    match t, hk with
    | c :: r, hk =>
     simp only [List.take_succ_cons, List.all_cons, Bool.and_eq_true] at ha
     unfold runLen
     rw [if_pos ha.1, ih r (by simpa using hk) ha.2 (by simpa using hp)]
  exact hz k t hk ha (by simpa using h)
theorem run_all {p : UInt8 → Bool} : ∀ {t : List UInt8}, t.all p = true → runLen p t = t.length
 | [], _ => rfl
 | c :: r, h => by
  simp only [List.all_cons, Bool.and_eq_true] at h
  unfold runLen
  rw [if_pos h.1, run_all h.2]
  rfl
theorem all_snoc {p : UInt8 → Bool} {t : List UInt8} {k : Nat} (hk : k < t.length) (ha : (t.take k).all p = true) (hp : p t[k] = true) : (t.take (k + 1)).all p = true := by
 rw [List.take_succ_eq_append_getElem hk, List.all_append, ha]; simp [hp]
theorem run_blank (g : Nat) (s : List UInt8) (i : Nat) (w : World) (h : Lx w g s i) : Calls Tryz.prog 55 #[.pointer (some ⟨g, 0, none⟩), .func (.func 56) #[] #[]] w fun e w' => e = .returned (.int .i64 (runLen blankC (s.drop i) : Int)) ∧ Below w.heap.size w w' := by
 have hi := h.i
 have hn := h.n
 have HL := Lib.hid h
 have hsz : (ByteArray.mk s.toArray).size = s.length := by simp [ByteArray.size]
 clear h
 go_enter Tryz.func55, Tryz.ntmps55
 go_wp2_with fail
 go_loopw [4] (fun v wr => ∃ k : Nat, i + k ≤ s.length ∧ v = .int .i64 k ∧ Hid (((s.drop i).take k).all blankC = true) ∧ Below w.heap.size w wr) (fun v _ => s.length - (intOf v).toNat)
 case atStart => exact ⟨0, by omega, rfl, Lib.hid (by simp), Below.refl _ _⟩
 case round =>
  obtain ⟨k, hk, rfl, H, hb⟩ := hrel
  obtain ⟨m, hm⟩ : ∃ m, i + k = m := ⟨_, rfl⟩
  have hwr : IntKind.i64.wrap ((i : Int) + (k : Int)) = (m : Int) := by rw [IntWalk.i64_in _ (by omega)]; omega
  by_cases hlt : m < s.length
  ·have hlt' : k < (s.drop i).length := by simp; omega
   have hst := Lib.hid (all_snoc (p := blankC) hlt' H.out)
   have hno := Lib.hid (run_step (p := blankC) hlt' H.out)
   generalize hc : (s.drop i)[k] = c at hst hno
   rw [List.getElem_drop] at hc
   have hx := ba_at s m hlt (by simpa only [hm] using hc)
   have d1 : decide ((m : Int) < (s.length : Int)) = true := by simp; omega
   have d2 : decide (m < s.length) = true := by simp; omega
   have hm1 : i + k ≤ m ∧ m ≤ i + k := by omega
   clear hm hc
   go_wp2_with fail
   refine wp_region_sched [(0, true), (1, true), (2, true), (3, true), (4, true), (5, true), (6, true), (7, true), (8, true), (9, true), (10, true), (11, true), (12, true), (13, true), (14, true), (15, true), (16, true), (17, true), (18, true), (19, true), (20, true), (21, true), (22, true), (23, true), (24, true), (25, true), (26, true), (27, false), (28, true)] (by kernel_rfl) (by kernel_rfl) (fun _ _ d _ _ h => by cases d <;> exact h) ?_
   refine swith (fun W hW => (cells4 (HL.out.next (hb.drew.trans (hW.out.mono hb.size))).box)) (fun q => ?_)
   repeat (first | (refine sreadx rfl rfl ?_; apply Exists.intro; apply And.intro; (· (intro W hW; go_simp; try (first | with_reducible rfl | (rw [if_neg (by omega)]; try with_reducible rfl)))); simp only [Act.put, List.setIfInBounds_toArray, List.set_cons_zero, List.set_cons_succ]) | (refine sskip rfl rfl ?_; simp only [Act.put, List.setIfInBounds_toArray, List.set_cons_zero, List.set_cons_succ]))
   refine scall rfl rfl (fun K hK => ?_)
   go_simp
   refine (lblank_any c _).mono ?_; rintro e w2 ⟨rfl, rfl⟩
   go_wp2_with fail
   refine hK.out _ _ (by exact Grow.refl _) ?_
   clear hK K
   try simp only [Act.put, List.setIfInBounds_toArray, List.set_cons_zero, List.set_cons_succ]
   cases hp : blankC c
   ·have hno' := Lib.hid (hno.out.trans (if_neg (by simp [hp])))
    repeat (first | (refine sreadx rfl rfl ?_; apply Exists.intro; apply And.intro; (· (intro W hW; go_simp; try (first | with_reducible rfl | (rw [if_neg (by omega)]; try with_reducible rfl)))); simp only [Act.put, List.setIfInBounds_toArray, List.set_cons_zero, List.set_cons_succ]) | (refine sskip rfl rfl ?_; simp only [Act.put, List.setIfInBounds_toArray, List.set_cons_zero, List.set_cons_succ]))
    refine sdone ?_
    clear q hwr
    go_wp2_with fail
    go_ret
    exact ⟨by rw [hno'.out]; rfl, hb.drew⟩
   ·have hst' := Lib.hid (hst.out hp)
    repeat (first | (refine sreadx rfl rfl ?_; apply Exists.intro; apply And.intro; (· (intro W hW; go_simp; try (first | with_reducible rfl | (rw [if_neg (by omega)]; try with_reducible rfl)))); simp only [Act.put, List.setIfInBounds_toArray, List.set_cons_zero, List.set_cons_succ]) | (refine sskip rfl rfl ?_; simp only [Act.put, List.setIfInBounds_toArray, List.set_cons_zero, List.set_cons_succ]))
    refine sdone ?_
    clear q hwr
    go_wp2_with fail
    go_roundw
    case rel => exact ⟨k + 1, by omega, by go_num, hst', hb.drew⟩
    case measure => simp [intOf]; omega
  ·have d1 : decide ((m : Int) < (s.length : Int)) = false := by simp; omega
   have d2 : decide (m < s.length) = false := by simp; omega
   have hm1 : i + k ≤ m ∧ m ≤ i + k := by omega
   clear hm
   go_wp2_with fail
   refine wp_region_sched [(0, true), (1, true), (2, true), (3, true), (4, true), (5, true), (6, true), (7, true), (8, true), (9, true), (10, true), (11, true), (12, true), (13, true), (14, true), (15, true), (16, true), (17, true), (18, true), (19, true), (20, true), (21, true), (22, true), (23, true), (24, true), (25, true), (26, true), (27, false), (28, true)] (by kernel_rfl) (by kernel_rfl) (fun _ _ d _ _ h => by cases d <;> exact h) ?_
   refine swith (fun W hW => (cells4 (HL.out.next (hb.drew.trans (hW.out.mono hb.size))).box)) (fun q => ?_)
   repeat (first | (refine sreadx rfl rfl ?_; apply Exists.intro; apply And.intro; (· (intro W hW; go_simp; try (first | with_reducible rfl | (rw [if_neg (by omega)]; try with_reducible rfl)))); simp only [Act.put, List.setIfInBounds_toArray, List.set_cons_zero, List.set_cons_succ]) | (refine sskip rfl rfl ?_; simp only [Act.put, List.setIfInBounds_toArray, List.set_cons_zero, List.set_cons_succ]))
   refine sdone ?_
   clear q hwr
   go_wp2_with fail
   go_ret
   have he : runLen blankC (s.drop i) = k := by
    have h1 := H.out
    rw [List.take_of_length_le (by simp; omega)] at h1
    rw [run_all h1]; simp; omega
   exact ⟨by rw [he]; rfl, hb.drew⟩
theorem run_note (g : Nat) (s : List UInt8) (i : Nat) (w : World) (h : Lx w g s i) : Calls Tryz.prog 55 #[.pointer (some ⟨g, 0, none⟩), .func (.func 57) #[] #[]] w fun e w' => e = .returned (.int .i64 (runLen noteC (s.drop i) : Int)) ∧ Below w.heap.size w w' := by
 have hi := h.i
 have hn := h.n
 have HL := Lib.hid h
 have hsz : (ByteArray.mk s.toArray).size = s.length := by simp [ByteArray.size]
 clear h
 go_enter Tryz.func55, Tryz.ntmps55
 go_wp2_with fail
 go_loopw [4] (fun v wr => ∃ k : Nat, i + k ≤ s.length ∧ v = .int .i64 k ∧ Hid (((s.drop i).take k).all noteC = true) ∧ Below w.heap.size w wr) (fun v _ => s.length - (intOf v).toNat)
 case atStart => exact ⟨0, by omega, rfl, Lib.hid (by simp), Below.refl _ _⟩
 case round =>
  obtain ⟨k, hk, rfl, H, hb⟩ := hrel
  obtain ⟨m, hm⟩ : ∃ m, i + k = m := ⟨_, rfl⟩
  have hwr : IntKind.i64.wrap ((i : Int) + (k : Int)) = (m : Int) := by rw [IntWalk.i64_in _ (by omega)]; omega
  by_cases hlt : m < s.length
  ·have hlt' : k < (s.drop i).length := by simp; omega
   have hst := Lib.hid (all_snoc (p := noteC) hlt' H.out)
   have hno := Lib.hid (run_step (p := noteC) hlt' H.out)
   generalize hc : (s.drop i)[k] = c at hst hno
   rw [List.getElem_drop] at hc
   have hx := ba_at s m hlt (by simpa only [hm] using hc)
   have d1 : decide ((m : Int) < (s.length : Int)) = true := by simp; omega
   have d2 : decide (m < s.length) = true := by simp; omega
   have hm1 : i + k ≤ m ∧ m ≤ i + k := by omega
   clear hm hc
   go_wp2_with fail
   refine wp_region_sched [(0, true), (1, true), (2, true), (3, true), (4, true), (5, true), (6, true), (7, true), (8, true), (9, true), (10, true), (11, true), (12, true), (13, true), (14, true), (15, true), (16, true), (17, true), (18, true), (19, true), (20, true), (21, true), (22, true), (23, true), (24, true), (25, true), (26, true), (27, false), (28, true)] (by kernel_rfl) (by kernel_rfl) (fun _ _ d _ _ h => by cases d <;> exact h) ?_
   refine swith (fun W hW => (cells4 (HL.out.next (hb.drew.trans (hW.out.mono hb.size))).box)) (fun q => ?_)
   repeat (first | (refine sreadx rfl rfl ?_; apply Exists.intro; apply And.intro; (· (intro W hW; go_simp; try (first | with_reducible rfl | (rw [if_neg (by omega)]; try with_reducible rfl)))); simp only [Act.put, List.setIfInBounds_toArray, List.set_cons_zero, List.set_cons_succ]) | (refine sskip rfl rfl ?_; simp only [Act.put, List.setIfInBounds_toArray, List.set_cons_zero, List.set_cons_succ]))
   refine scall rfl rfl (fun K hK => ?_)
   go_simp
   refine (lnote_any c _).mono ?_; rintro e w2 ⟨rfl, rfl⟩
   go_wp2_with fail
   refine hK.out _ _ (by exact Grow.refl _) ?_
   clear hK K
   try simp only [Act.put, List.setIfInBounds_toArray, List.set_cons_zero, List.set_cons_succ]
   cases hp : noteC c
   ·have hno' := Lib.hid (hno.out.trans (if_neg (by simp [hp])))
    repeat (first | (refine sreadx rfl rfl ?_; apply Exists.intro; apply And.intro; (· (intro W hW; go_simp; try (first | with_reducible rfl | (rw [if_neg (by omega)]; try with_reducible rfl)))); simp only [Act.put, List.setIfInBounds_toArray, List.set_cons_zero, List.set_cons_succ]) | (refine sskip rfl rfl ?_; simp only [Act.put, List.setIfInBounds_toArray, List.set_cons_zero, List.set_cons_succ]))
    refine sdone ?_
    clear q hwr
    go_wp2_with fail
    go_ret
    exact ⟨by rw [hno'.out]; rfl, hb.drew⟩
   ·have hst' := Lib.hid (hst.out hp)
    repeat (first | (refine sreadx rfl rfl ?_; apply Exists.intro; apply And.intro; (· (intro W hW; go_simp; try (first | with_reducible rfl | (rw [if_neg (by omega)]; try with_reducible rfl)))); simp only [Act.put, List.setIfInBounds_toArray, List.set_cons_zero, List.set_cons_succ]) | (refine sskip rfl rfl ?_; simp only [Act.put, List.setIfInBounds_toArray, List.set_cons_zero, List.set_cons_succ]))
    refine sdone ?_
    clear q hwr
    go_wp2_with fail
    go_roundw
    case rel => exact ⟨k + 1, by omega, by go_num, hst', hb.drew⟩
    case measure => simp [intOf]; omega
  ·have d1 : decide ((m : Int) < (s.length : Int)) = false := by simp; omega
   have d2 : decide (m < s.length) = false := by simp; omega
   have hm1 : i + k ≤ m ∧ m ≤ i + k := by omega
   clear hm
   go_wp2_with fail
   refine wp_region_sched [(0, true), (1, true), (2, true), (3, true), (4, true), (5, true), (6, true), (7, true), (8, true), (9, true), (10, true), (11, true), (12, true), (13, true), (14, true), (15, true), (16, true), (17, true), (18, true), (19, true), (20, true), (21, true), (22, true), (23, true), (24, true), (25, true), (26, true), (27, false), (28, true)] (by kernel_rfl) (by kernel_rfl) (fun _ _ d _ _ h => by cases d <;> exact h) ?_
   refine swith (fun W hW => (cells4 (HL.out.next (hb.drew.trans (hW.out.mono hb.size))).box)) (fun q => ?_)
   repeat (first | (refine sreadx rfl rfl ?_; apply Exists.intro; apply And.intro; (· (intro W hW; go_simp; try (first | with_reducible rfl | (rw [if_neg (by omega)]; try with_reducible rfl)))); simp only [Act.put, List.setIfInBounds_toArray, List.set_cons_zero, List.set_cons_succ]) | (refine sskip rfl rfl ?_; simp only [Act.put, List.setIfInBounds_toArray, List.set_cons_zero, List.set_cons_succ]))
   refine sdone ?_
   clear q hwr
   go_wp2_with fail
   go_ret
   have he : runLen noteC (s.drop i) = k := by
    have h1 := H.out
    rw [List.take_of_length_le (by simp; omega)] at h1
    rw [run_all h1]; simp; omega
   exact ⟨by rw [he]; rfl, hb.drew⟩
theorem run_word (g : Nat) (s : List UInt8) (i : Nat) (w : World) (h : Lx w g s i) : Calls Tryz.prog 55 #[.pointer (some ⟨g, 0, none⟩), .func (.func 60) #[] #[]] w fun e w' => e = .returned (.int .i64 (runLen wordC (s.drop i) : Int)) ∧ Below w.heap.size w w' := by
 have hi := h.i
 have hn := h.n
 have HL := Lib.hid h
 have hsz : (ByteArray.mk s.toArray).size = s.length := by simp [ByteArray.size]
 clear h
 go_enter Tryz.func55, Tryz.ntmps55
 go_wp2_with fail
 go_loopw [4] (fun v wr => ∃ k : Nat, i + k ≤ s.length ∧ v = .int .i64 k ∧ Hid (((s.drop i).take k).all wordC = true) ∧ Below w.heap.size w wr) (fun v _ => s.length - (intOf v).toNat)
 case atStart => exact ⟨0, by omega, rfl, Lib.hid (by simp), Below.refl _ _⟩
 case round =>
  obtain ⟨k, hk, rfl, H, hb⟩ := hrel
  obtain ⟨m, hm⟩ : ∃ m, i + k = m := ⟨_, rfl⟩
  have hwr : IntKind.i64.wrap ((i : Int) + (k : Int)) = (m : Int) := by rw [IntWalk.i64_in _ (by omega)]; omega
  by_cases hlt : m < s.length
  ·have hlt' : k < (s.drop i).length := by simp; omega
   have hst := Lib.hid (all_snoc (p := wordC) hlt' H.out)
   have hno := Lib.hid (run_step (p := wordC) hlt' H.out)
   generalize hc : (s.drop i)[k] = c at hst hno
   rw [List.getElem_drop] at hc
   have hx := ba_at s m hlt (by simpa only [hm] using hc)
   have d1 : decide ((m : Int) < (s.length : Int)) = true := by simp; omega
   have d2 : decide (m < s.length) = true := by simp; omega
   have hm1 : i + k ≤ m ∧ m ≤ i + k := by omega
   clear hm hc
   go_wp2_with fail
   refine wp_region_sched [(0, true), (1, true), (2, true), (3, true), (4, true), (5, true), (6, true), (7, true), (8, true), (9, true), (10, true), (11, true), (12, true), (13, true), (14, true), (15, true), (16, true), (17, true), (18, true), (19, true), (20, true), (21, true), (22, true), (23, true), (24, true), (25, true), (26, true), (27, false), (28, true)] (by kernel_rfl) (by kernel_rfl) (fun _ _ d _ _ h => by cases d <;> exact h) ?_
   refine swith (fun W hW => (cells4 (HL.out.next (hb.drew.trans (hW.out.mono hb.size))).box)) (fun q => ?_)
   repeat (first | (refine sreadx rfl rfl ?_; apply Exists.intro; apply And.intro; (· (intro W hW; go_simp; try (first | with_reducible rfl | (rw [if_neg (by omega)]; try with_reducible rfl)))); simp only [Act.put, List.setIfInBounds_toArray, List.set_cons_zero, List.set_cons_succ]) | (refine sskip rfl rfl ?_; simp only [Act.put, List.setIfInBounds_toArray, List.set_cons_zero, List.set_cons_succ]))
   refine scall rfl rfl (fun K hK => ?_)
   go_simp
   refine (lword_any c _).mono ?_; rintro e w2 ⟨rfl, rfl⟩
   go_wp2_with fail
   refine hK.out _ _ (by exact Grow.refl _) ?_
   clear hK K
   try simp only [Act.put, List.setIfInBounds_toArray, List.set_cons_zero, List.set_cons_succ]
   cases hp : wordC c
   ·have hno' := Lib.hid (hno.out.trans (if_neg (by simp [hp])))
    repeat (first | (refine sreadx rfl rfl ?_; apply Exists.intro; apply And.intro; (· (intro W hW; go_simp; try (first | with_reducible rfl | (rw [if_neg (by omega)]; try with_reducible rfl)))); simp only [Act.put, List.setIfInBounds_toArray, List.set_cons_zero, List.set_cons_succ]) | (refine sskip rfl rfl ?_; simp only [Act.put, List.setIfInBounds_toArray, List.set_cons_zero, List.set_cons_succ]))
    refine sdone ?_
    clear q hwr
    go_wp2_with fail
    go_ret
    exact ⟨by rw [hno'.out]; rfl, hb.drew⟩
   ·have hst' := Lib.hid (hst.out hp)
    repeat (first | (refine sreadx rfl rfl ?_; apply Exists.intro; apply And.intro; (· (intro W hW; go_simp; try (first | with_reducible rfl | (rw [if_neg (by omega)]; try with_reducible rfl)))); simp only [Act.put, List.setIfInBounds_toArray, List.set_cons_zero, List.set_cons_succ]) | (refine sskip rfl rfl ?_; simp only [Act.put, List.setIfInBounds_toArray, List.set_cons_zero, List.set_cons_succ]))
    refine sdone ?_
    clear q hwr
    go_wp2_with fail
    go_roundw
    case rel => exact ⟨k + 1, by omega, by go_num, hst', hb.drew⟩
    case measure => simp [intOf]; omega
  ·have d1 : decide ((m : Int) < (s.length : Int)) = false := by simp; omega
   have d2 : decide (m < s.length) = false := by simp; omega
   have hm1 : i + k ≤ m ∧ m ≤ i + k := by omega
   clear hm
   go_wp2_with fail
   refine wp_region_sched [(0, true), (1, true), (2, true), (3, true), (4, true), (5, true), (6, true), (7, true), (8, true), (9, true), (10, true), (11, true), (12, true), (13, true), (14, true), (15, true), (16, true), (17, true), (18, true), (19, true), (20, true), (21, true), (22, true), (23, true), (24, true), (25, true), (26, true), (27, false), (28, true)] (by kernel_rfl) (by kernel_rfl) (fun _ _ d _ _ h => by cases d <;> exact h) ?_
   refine swith (fun W hW => (cells4 (HL.out.next (hb.drew.trans (hW.out.mono hb.size))).box)) (fun q => ?_)
   repeat (first | (refine sreadx rfl rfl ?_; apply Exists.intro; apply And.intro; (· (intro W hW; go_simp; try (first | with_reducible rfl | (rw [if_neg (by omega)]; try with_reducible rfl)))); simp only [Act.put, List.setIfInBounds_toArray, List.set_cons_zero, List.set_cons_succ]) | (refine sskip rfl rfl ?_; simp only [Act.put, List.setIfInBounds_toArray, List.set_cons_zero, List.set_cons_succ]))
   refine sdone ?_
   clear q hwr
   go_wp2_with fail
   go_ret
   have he : runLen wordC (s.drop i) = k := by
    have h1 := H.out
    rw [List.take_of_length_le (by simp; omega)] at h1
    rw [run_all h1]; simp; omega
   exact ⟨by rw [he]; rfl, hb.drew⟩
theorem run_digit (g : Nat) (s : List UInt8) (i : Nat) (w : World) (h : Lx w g s i) : Calls Tryz.prog 55 #[.pointer (some ⟨g, 0, none⟩), .func (.func 61) #[] #[]] w fun e w' => e = .returned (.int .i64 (runLen digitC (s.drop i) : Int)) ∧ Below w.heap.size w w' := by
 have hi := h.i
 have hn := h.n
 have HL := Lib.hid h
 have hsz : (ByteArray.mk s.toArray).size = s.length := by simp [ByteArray.size]
 clear h
 go_enter Tryz.func55, Tryz.ntmps55
 go_wp2_with fail
 go_loopw [4] (fun v wr => ∃ k : Nat, i + k ≤ s.length ∧ v = .int .i64 k ∧ Hid (((s.drop i).take k).all digitC = true) ∧ Below w.heap.size w wr) (fun v _ => s.length - (intOf v).toNat)
 case atStart => exact ⟨0, by omega, rfl, Lib.hid (by simp), Below.refl _ _⟩
 case round =>
  obtain ⟨k, hk, rfl, H, hb⟩ := hrel
  obtain ⟨m, hm⟩ : ∃ m, i + k = m := ⟨_, rfl⟩
  have hwr : IntKind.i64.wrap ((i : Int) + (k : Int)) = (m : Int) := by rw [IntWalk.i64_in _ (by omega)]; omega
  by_cases hlt : m < s.length
  ·have hlt' : k < (s.drop i).length := by simp; omega
   have hst := Lib.hid (all_snoc (p := digitC) hlt' H.out)
   have hno := Lib.hid (run_step (p := digitC) hlt' H.out)
   generalize hc : (s.drop i)[k] = c at hst hno
   rw [List.getElem_drop] at hc
   have hx := ba_at s m hlt (by simpa only [hm] using hc)
   have d1 : decide ((m : Int) < (s.length : Int)) = true := by simp; omega
   have d2 : decide (m < s.length) = true := by simp; omega
   have hm1 : i + k ≤ m ∧ m ≤ i + k := by omega
   clear hm hc
   go_wp2_with fail
   refine wp_region_sched [(0, true), (1, true), (2, true), (3, true), (4, true), (5, true), (6, true), (7, true), (8, true), (9, true), (10, true), (11, true), (12, true), (13, true), (14, true), (15, true), (16, true), (17, true), (18, true), (19, true), (20, true), (21, true), (22, true), (23, true), (24, true), (25, true), (26, true), (27, false), (28, true)] (by kernel_rfl) (by kernel_rfl) (fun _ _ d _ _ h => by cases d <;> exact h) ?_
   refine swith (fun W hW => (cells4 (HL.out.next (hb.drew.trans (hW.out.mono hb.size))).box)) (fun q => ?_)
   repeat (first | (refine sreadx rfl rfl ?_; apply Exists.intro; apply And.intro; (· (intro W hW; go_simp; try (first | with_reducible rfl | (rw [if_neg (by omega)]; try with_reducible rfl)))); simp only [Act.put, List.setIfInBounds_toArray, List.set_cons_zero, List.set_cons_succ]) | (refine sskip rfl rfl ?_; simp only [Act.put, List.setIfInBounds_toArray, List.set_cons_zero, List.set_cons_succ]))
   refine scall rfl rfl (fun K hK => ?_)
   go_simp
   refine (ldigit_any c _).mono ?_; rintro e w2 ⟨rfl, rfl⟩
   go_wp2_with fail
   refine hK.out _ _ (by exact Grow.refl _) ?_
   clear hK K
   try simp only [Act.put, List.setIfInBounds_toArray, List.set_cons_zero, List.set_cons_succ]
   cases hp : digitC c
   ·have hno' := Lib.hid (hno.out.trans (if_neg (by simp [hp])))
    repeat (first | (refine sreadx rfl rfl ?_; apply Exists.intro; apply And.intro; (· (intro W hW; go_simp; try (first | with_reducible rfl | (rw [if_neg (by omega)]; try with_reducible rfl)))); simp only [Act.put, List.setIfInBounds_toArray, List.set_cons_zero, List.set_cons_succ]) | (refine sskip rfl rfl ?_; simp only [Act.put, List.setIfInBounds_toArray, List.set_cons_zero, List.set_cons_succ]))
    refine sdone ?_
    clear q hwr
    go_wp2_with fail
    go_ret
    exact ⟨by rw [hno'.out]; rfl, hb.drew⟩
   ·have hst' := Lib.hid (hst.out hp)
    repeat (first | (refine sreadx rfl rfl ?_; apply Exists.intro; apply And.intro; (· (intro W hW; go_simp; try (first | with_reducible rfl | (rw [if_neg (by omega)]; try with_reducible rfl)))); simp only [Act.put, List.setIfInBounds_toArray, List.set_cons_zero, List.set_cons_succ]) | (refine sskip rfl rfl ?_; simp only [Act.put, List.setIfInBounds_toArray, List.set_cons_zero, List.set_cons_succ]))
    refine sdone ?_
    clear q hwr
    go_wp2_with fail
    go_roundw
    case rel => exact ⟨k + 1, by omega, by go_num, hst', hb.drew⟩
    case measure => simp [intOf]; omega
  ·have d1 : decide ((m : Int) < (s.length : Int)) = false := by simp; omega
   have d2 : decide (m < s.length) = false := by simp; omega
   have hm1 : i + k ≤ m ∧ m ≤ i + k := by omega
   clear hm
   go_wp2_with fail
   refine wp_region_sched [(0, true), (1, true), (2, true), (3, true), (4, true), (5, true), (6, true), (7, true), (8, true), (9, true), (10, true), (11, true), (12, true), (13, true), (14, true), (15, true), (16, true), (17, true), (18, true), (19, true), (20, true), (21, true), (22, true), (23, true), (24, true), (25, true), (26, true), (27, false), (28, true)] (by kernel_rfl) (by kernel_rfl) (fun _ _ d _ _ h => by cases d <;> exact h) ?_
   refine swith (fun W hW => (cells4 (HL.out.next (hb.drew.trans (hW.out.mono hb.size))).box)) (fun q => ?_)
   repeat (first | (refine sreadx rfl rfl ?_; apply Exists.intro; apply And.intro; (· (intro W hW; go_simp; try (first | with_reducible rfl | (rw [if_neg (by omega)]; try with_reducible rfl)))); simp only [Act.put, List.setIfInBounds_toArray, List.set_cons_zero, List.set_cons_succ]) | (refine sskip rfl rfl ?_; simp only [Act.put, List.setIfInBounds_toArray, List.set_cons_zero, List.set_cons_succ]))
   refine sdone ?_
   clear q hwr
   go_wp2_with fail
   go_ret
   have he : runLen digitC (s.drop i) = k := by
    have h1 := H.out
    rw [List.take_of_length_le (by simp; omega)] at h1
    rw [run_all h1]; simp; omega
   exact ⟨by rw [he]; rfl, hb.drew⟩
end Go.Proofs.YtnbmpfdffoidaaaGreat.X
namespace Go.Proofs.YtnbmpfdffoidaaaGreat.X
open Go.RowKit O V S
theorem cut_at (s : List UInt8) (i n m : Nat) (h : m = i + n) : (ByteArray.mk s.toArray).extract i m = ⟨((s.drop i).take n).toArray⟩ := by
 subst h
 apply ByteArray.ext
 simp [List.extract_eq_take_drop, List.take_drop]
theorem last_cases (u : List UInt8) : (Lib.lastIndexByte ⟨u.toArray⟩ 10 = -1 ∧ ∀ j, j < u.length → (u.getD j 0).toNat ≠ 10) ∨ ∃ p : Nat, p < u.length ∧ Lib.lastIndexByte ⟨u.toArray⟩ 10 = p ∧ (u.getD p 0).toNat = 10 ∧ ∀ j, p < j → j < u.length → (u.getD j 0).toNat ≠ 10 := by
 have hsz : (ByteArray.mk u.toArray).size = u.length := by simp [ByteArray.size]
 have hg : ∀ j, j < u.length → (ByteArray.mk u.toArray).data[j]! = u.getD j 0 := fun j hj => by simp [List.getD_eq_getElem?_getD, hj]
 rcases Lib.lastIdx_spec ⟨u.toArray⟩ 10 (ByteArray.mk u.toArray).size with ⟨h1, h2⟩ | ⟨p, hp, h1, h2, h3⟩
 ·refine .inl ⟨h1, fun j hj => ?_⟩
  have := h2 j (by omega)
  rw [hg j hj] at this
  omega
 ·rw [hsz] at hp
  refine .inr ⟨p, hp, h1, ?_, fun j hj1 hj2 => ?_⟩
  ·rw [hg p hp] at h2; omega
  ·have := h3 j hj1 (by omega)
   rw [hg j hj2] at this
   omega
theorem getD_cut {s : List UInt8} {i n j : Nat} (h : i + n ≤ s.length) (hj : j < n) : ((s.drop i).take n).getD j 0 = s.getD (i + j) 0 := by
 simp [List.getD_eq_getElem?_getD, List.getElem?_take, hj]
theorem pass_any (g : Nat) (s : List UInt8) (i n : Nat) (w : World) (h : Lx w g s i) (hin : i + n ≤ s.length) : Calls Tryz.prog 54 #[.pointer (some ⟨g, 0, none⟩), .int .i64 (n : Int)] w fun e w' => e = .returned (.string ⟨((s.drop i).take n).toArray⟩) ∧ Lx w' g s (i + n) ∧ w.grownBy w' (some g) := by
 have hn := h.n
 have HL := Lib.hid h
 have hgl := h.lt
 have hsz : (ByteArray.mk s.toArray).size = s.length := by simp [ByteArray.size]
 obtain ⟨m, hm⟩ : ∃ m, m = i + n := ⟨_, rfl⟩
 have hwr : IntKind.i64.wrap ((i : Int) + (n : Int)) = (m : Int) := by rw [IntWalk.i64_in _ (by omega)]; omega
 have hcut := cut_at s i n m hm
 have hline := line_add s i n hin
 have hlast := last_cases ((s.drop i).take n)
 have hul : ((s.drop i).take n).length = n := by simp; omega
 have hgd := fun j hj => getD_cut (s := s) (i := i) (n := n) (j := j) hin hj
 rw [hul] at hlast
 have hle := lineOf_le s i
 have hle2 := lineOf_le s (i + n)
 have hse := startOf_le s i
 have hstart : (Lib.lastIndexByte ⟨((s.drop i).take n).toArray⟩ 10 = -1 ∧ startOf s (i + n) = startOf s i ∧ lineOf s (i + n) = lineOf s i) ∨ ∃ p : Nat, p < n ∧ Lib.lastIndexByte ⟨((s.drop i).take n).toArray⟩ 10 = p ∧ startOf s (i + n) = i + p + 1 := by
  rcases hlast with ⟨h1, h2⟩ | ⟨p, hp, h1, h2, h3⟩
  ·refine .inl ⟨h1, start_no s i n (fun j hj1 hj2 => ?_), ?_⟩
   ·have := h2 (j - i) (by omega)
    rwa [hgd _ (by omega), show i + (j - i) = j by omega] at this
   ·rw [hline, List.count_eq_zero_of_not_mem]
    ·rfl
    ·intro hmem
     obtain ⟨j, hj, e⟩ := List.getElem_of_mem hmem
     have := h2 j (by omega)
     rw [List.getD_eq_getElem?_getD, List.getElem?_eq_getElem hj] at this
     exact this ((ten_iff _).2 e)
  ·refine .inr ⟨p, hp, h1, start_at s i p n hp (by rw [← hgd p hp]; exact h2) (fun j hj1 hj2 => by rw [← hgd j hj2]; exact h3 j hj1 hj2)⟩
 have hmi : m ≤ s.length := by omega
 have him : i ≤ m := by omega
 have HLn := Lib.hid hline
 have HS := Lib.hid hstart
 have HM := Lib.hid hm
 clear h hline hlast hgd hstart hm hle2
 generalize (s.drop i).take n = u at hcut HLn HS hul
 go_enter Tryz.func54, Tryz.ntmps54
 go_wp2_with fail
 refine wp_region_sched [(0, true), (1, true), (2, true), (3, true), (4, true), (5, true), (6, true), (7, true), (8, true), (9, true), (10, true), (11, true), (12, true), (13, true), (14, true), (15, true), (16, true), (17, true)] (by kernel_rfl) (by kernel_rfl) (fun _ _ d _ _ h => by cases d <;> exact h) ?_
 refine swith (fun W hW => (cells4 (HL.out.next ((Below.refl _ _).drew.trans (hW.out.mono (Nat.le_refl _)))).box)) (fun q => ?_)
 repeat (first | (refine sreadx rfl rfl ?_; apply Exists.intro; apply And.intro; (· (intro W hW; go_simp; try (first | with_reducible rfl | (rw [if_neg (by omega)]; try with_reducible rfl)))); simp only [Act.put, List.setIfInBounds_toArray, List.set_cons_zero, List.set_cons_succ]) | (refine sskip rfl rfl ?_; simp only [Act.put, List.setIfInBounds_toArray, List.set_cons_zero, List.set_cons_succ]))
 refine sdone ?_
 clear q
 have L1 := Lib.hid (HL.out.next (Below.refl _ _).drew)
 obtain ⟨⟨x0, x1⟩, x2, x3⟩ := cells4 L1.out.box
 have f0 := Lib.frozen_of_heap L1.out.box 0
 have f1 := Lib.frozen_of_heap L1.out.box 1
 have f2 := Lib.frozen_of_heap L1.out.box 2
 go_wp2_with fail
 refine (Tryz.strings_LastIndexByte ⟨u.toArray⟩ 10 (by simp [ByteArray.size]; omega) _).mono ?_; rintro e w2 ⟨rfl, rfl⟩
 rcases HS.out with ⟨h1, h2, h3⟩ | ⟨p, hp, h1, h2⟩
 ·rw [h1]
  go_wp2_with fail
  go_ret
  refine ⟨rfl, ⟨?_, by have := HM.out; omega, hn⟩, gb_trans (gb_below (Below.refl _ _).drew _) (gb_set _ _ _ _)⟩
  have := heap_set (i := 0) L1.out.box (.int .i64 (m : Int))
  rw [h2, h3, show i + n = m from HM.out.symm]
  exact this
 ·rw [h1]
  have hcnt := List.count_le_length (a := (10 : UInt8)) (l := u)
  obtain ⟨k, hk⟩ : ∃ k, u.count 10 = k := ⟨_, rfl⟩
  rw [hk] at HLn hcnt
  have hkk : Lib.countByte (ByteArray.mk u.toArray).data.toList 10 = k := by simpa [Lib.countByte] using hk
  have HKK := Lib.hid hkk
  obtain ⟨ln, hln⟩ : ∃ ln, lineOf s i = ln := ⟨_, rfl⟩
  have hwl : IntKind.i64.wrap ((ln : Int) + (k : Int)) = ((ln : Int) + (k : Int)) := IntWalk.i64_in _ (by omega)
  rw [hln] at x1
  clear hk hkk
  go_wp2_with fail
  refine wp_region_still_tail 11 (by kernel_rfl) (by kernel_rfl) ?_
  have L2 := Lib.hid (L1.out.next (Below.refl _ _).drew)
  have G2 : Hid (w.grownBy w.drew.drew (some g)) := Lib.hid (gb_below (Below.refl _ _).drew.drew _)
  change wpStill _ _ (w.drew.drew) (fun a' => wpList _ _ _ _ a' (w.drew.drew)) _ _
  clear x0 x1 x2 x3 f0 f1 f2 L1
  generalize w.drew.drew = w2 at *
  obtain ⟨⟨x0, x1⟩, x2, x3⟩ := cells4 L2.out.box
  rw [hln] at x1
  have f0 := Lib.frozen_of_heap L2.out.box 0
  have f1 := Lib.frozen_of_heap L2.out.box 1
  have f2 := Lib.frozen_of_heap L2.out.box 2
  simp only [List.take_succ_cons, List.take_zero, List.drop_succ_cons, List.drop_zero]
  repeat still_step
  still_call (Tryz.strings_Count_one ⟨u.toArray⟩ 10 _)
  rw [HKK.out]
  repeat still_step
  refine wpStill_nil ?_
  go_wp2_with fail
  go_ret
  refine ⟨rfl, ⟨?_, by have := HM.out; omega, hn⟩, gb_trans G2.out (gb_trans (gb_trans (gb_set _ _ _ _) (gb_set _ _ _ _)) (gb_set _ _ _ _))⟩
  have := heap_set (i := 0) (heap_set (i := 2) (heap_set (i := 1) L2.out.box (.int .i64 ((ln : Int) + (k : Int)))) (.int .i64 ((i : Int) + (p : Int) + 1))) (.int .i64 (m : Int))
  have e2 : ((lineOf s (i + n) : Nat) : Int) = (ln : Int) + (k : Int) := by rw [HLn.out, hln]; omega
  have e3 : ((startOf s (i + n) : Nat) : Int) = (i : Int) + (p : Int) + 1 := by rw [h2]; omega
  rw [e2, e3, show i + n = m from HM.out.symm]
  exact this
def offW (w : World) (g : Nat) : Nat := match w.cell? ⟨g, 0, none⟩ with
 | some (.int _ n) => n.toNat
 | _ => 0
theorem Lx.off {w : World} {g : Nat} {s : List UInt8} {i : Nat} (h : Lx w g s i) : offW w g = i := by
 unfold offW
 rw [(cells4 h.box).1.1]
 simp
theorem drop_take_len {s : List UInt8} {i : Nat} (p : UInt8 → Bool) (h : i ≤ s.length) : i + runLen p (s.drop i) ≤ s.length := by
 have := runLen_le p (s.drop i)
 simp at this
 omega
theorem skip_at_blank {s : List UInt8} {i : Nat} : skip (s.drop (i + runLen blankC (s.drop i))) = skip (s.drop i) := by
 rw [← List.drop_drop, drop_run, skip_while]
theorem skip_at_note {s : List UInt8} {i : Nat} (hi : i < s.length) (h : (s[i]).toNat = 35) : skip (s.drop (i + runLen noteC (s.drop i))) = skip (s.drop i) ∧ 0 < runLen noteC (s.drop i) := by
 have e : s.drop i = s[i] :: s.drop (i + 1) := List.drop_eq_getElem_cons hi
 have hn : noteC s[i] = true := by unfold noteC; simp; omega
 constructor
 ·rw [← List.drop_drop, drop_run, e, skip_note _ h, List.dropWhile_cons, if_pos hn]
 ·rw [e]; unfold runLen; rw [if_pos hn]; omega
theorem run_stop (p : UInt8 → Bool) : ∀ (t : List UInt8) (h : runLen p t < t.length), p (t[runLen p t]) = false
  | [], h => by simp [runLen] at h
  | c :: r, h => by
    by_cases hc : p c = true
    · have e : runLen p (c :: r) = runLen p r + 1 := by conv => lhs; unfold runLen
                                                        rw [if_pos hc]
      have h' : runLen p r < r.length := by rw [e] at h; simpa using h
      have := run_stop p r h'
      simp only [e, List.getElem_cons_succ]
      exact this
    · have e : runLen p (c :: r) = 0 := by unfold runLen; rw [if_neg hc]
      simp only [e, List.getElem_cons_zero]
      simpa using hc
theorem gap_any (g : Nat) (s : List UInt8) (i : Nat) (w : World) (h : Lx w g s i) : Calls Tryz.prog 32 #[.pointer (some ⟨g, 0, none⟩)] w fun e w' => e = .returned (.tuple #[]) ∧ Lx w' g s (s.length - (skip (s.drop i)).length) ∧ w.grownBy w' (some g) := by
 have hn := h.n
 have HL := Lib.hid h
 have hsz : (ByteArray.mk s.toArray).size = s.length := by simp [ByteArray.size]
 clear h
 go_enter Tryz.func32, Tryz.ntmps32
 go_wp2_with fail
 go_loopw [] (fun wr => ∃ j : Nat, Hid (skip (s.drop j) = skip (s.drop i)) ∧ Lx wr g s j ∧ w.grownBy wr (some g)) (fun wr => s.length - offW wr g)
 case atStart => exact ⟨i, Lib.hid rfl, HL.out, gb_below (Below.refl _ _) _⟩
 case round =>
  obtain ⟨j, hj, hL, hG⟩ := hrel
  have hof := Lib.hid hL.off
  have hji := hL.i
  have H0 := Lib.hid hL
  have G0 := Lib.hid hG
  clear hL hG
  go_wp2_with fail
  refine (run_blank g s j _ H0.out).mono ?_; rintro e w1 ⟨rfl, b1⟩
  have L1 := Lib.hid (H0.out.next b1)
  have G1 := Lib.hid (gb_trans G0.out (gb_below b1 (some g)))
  have hk := drop_take_len blankC hji
  have hst : Hid (∀ hh : j + runLen blankC (s.drop j) < s.length, blankC s[j + runLen blankC (s.drop j)] = false) := Lib.hid (fun hh => by
   have h1 : runLen blankC (s.drop j) < (s.drop j).length := by simp; omega
   have := run_stop blankC (s.drop j) h1
   simpa using this)
  have hsk := Lib.hid ((skip_at_blank (s := s) (i := j)).trans hj.out)
  generalize runLen blankC (s.drop j) = k1 at *
  clear b1
  go_wp2_with fail
  refine (pass_any g s j k1 _ L1.out hk).mono ?_; rintro e w2 ⟨rfl, l2, g2⟩
  have L2 := Lib.hid l2
  have G2 := Lib.hid (gb_trans G1.out g2)
  clear l2 g2 L1 G1
  obtain ⟨j1, hj1⟩ : ∃ j1, j + k1 = j1 := ⟨_, rfl⟩
  rw [hj1] at hk hst hsk L2
  by_cases hend : j1 = s.length
  ·have d1 : ((j1 : Int) == (s.length : Int)) = true := by simp; omega
   have hres : Hid (s.length - (skip (s.drop i)).length = j1) := Lib.hid (by
    rw [← hsk.out, hend, List.drop_length, skip_nil]; simp)
   have HE := Lib.hid hend
   clear hend hj1
   go_wp2_with fail
   refine wp_region_sched [(0, true), (1, true), (2, true), (3, true), (4, true), (5, true), (6, true), (7, true), (8, true), (9, true), (10, true), (11, true), (12, true), (13, true), (14, true), (15, true), (16, true), (17, true), (18, true), (19, true), (20, true), (21, true), (22, true), (23, true)] (by kernel_rfl) (by kernel_rfl) (fun _ _ d _ _ h => by cases d <;> exact h) ?_
   refine swith (fun W hW => (cells4 (L2.out.next ((Below.refl _ _).drew.trans (hW.out.mono (Nat.le_refl _)))).box)) (fun q => ?_)
   repeat (first | (refine sreadx rfl rfl ?_; apply Exists.intro; apply And.intro; (· (intro W hW; go_simp; try (first | with_reducible rfl | (rw [if_neg (by omega)]; try with_reducible rfl)))); simp only [Act.put, List.setIfInBounds_toArray, List.set_cons_zero, List.set_cons_succ]) | (refine sskip rfl rfl ?_; simp only [Act.put, List.setIfInBounds_toArray, List.set_cons_zero, List.set_cons_succ]))
   refine sdone ?_
   clear q
   go_wp2_with fail
   first | go_end0 | refine bodyPost_ret (results_none rfl _ _ _) rfl ?_
   exact ⟨rfl, by rw [hres.out]; exact L2.out.next (Below.refl _ _).drew, gb_trans G2.out (gb_below (Below.refl _ _).drew _)⟩
  ·have d1 : ((j1 : Int) == (s.length : Int)) = false := by simp; omega
   have hlt : j1 < s.length := by omega
   have hnb := hst.out hlt
   have hnote : Hid ((s[j1]).toNat = 35 → skip (s.drop (j1 + runLen noteC (s.drop j1))) = skip (s.drop i) ∧ 0 < runLen noteC (s.drop j1)) := Lib.hid (fun h35 => by
    have := skip_at_note hlt h35
    exact ⟨this.1.trans hsk.out, this.2⟩)
   have hres : Hid ((s[j1]).toNat ≠ 35 → s.length - (skip (s.drop i)).length = j1) := Lib.hid (fun h35 => by
    rw [← hsk.out, List.drop_eq_getElem_cons hlt, skip_stop _ hnb h35]
    simp; omega)
   generalize hc : s[j1] = c at hnote hres hnb
   have hx := ba_at s j1 hlt hc
   clear hc hnb hend hst
   by_cases h35 : c.toNat = 35
   ·have e1 : ((c.toNat : Int) != 35) = false := by simp; omega
    have e1' : ((c.toNat : Int) == 35) = true := by simp; omega
    obtain ⟨hn1, hn2⟩ := hnote.out h35
    have HN1 := Lib.hid hn1
    have H35 := Lib.hid h35
    have HJ := Lib.hid hj1
    have hj1' : j + k1 ≤ j1 := by omega
    have hjj : j ≤ j1 := by omega
    clear hn1 h35 hj1
    go_wp2_with fail
    refine wp_region_sched [(0, true), (1, true), (2, true), (3, true), (4, true), (5, true), (6, true), (7, true), (8, true), (9, true), (10, true), (11, true), (12, true), (13, true), (14, true), (15, true), (16, true), (17, true), (18, true), (19, true), (20, true), (21, true), (22, true), (23, true)] (by kernel_rfl) (by kernel_rfl) (fun _ _ d _ _ h => by cases d <;> exact h) ?_
    refine swith (fun W hW => (cells4 (L2.out.next ((Below.refl _ _).drew.trans (hW.out.mono (Nat.le_refl _)))).box)) (fun q => ?_)
    repeat (first | (refine sreadx rfl rfl ?_; apply Exists.intro; apply And.intro; (· (intro W hW; go_simp; try (first | with_reducible rfl | (rw [if_neg (by omega)]; try with_reducible rfl)))); simp only [Act.put, List.setIfInBounds_toArray, List.set_cons_zero, List.set_cons_succ]) | (refine sskip rfl rfl ?_; simp only [Act.put, List.setIfInBounds_toArray, List.set_cons_zero, List.set_cons_succ]))
    refine sdone ?_
    clear q
    have L3 := Lib.hid (L2.out.next (Below.refl _ _).drew)
    have G3 := Lib.hid (gb_trans G2.out (gb_below (Below.refl _ _).drew (some g)))
    go_wp2_with fail
    refine (run_note g s j1 _ L3.out).mono ?_; rintro e w4 ⟨rfl, b4⟩
    have L4 := Lib.hid (L3.out.next b4)
    have G4 := Lib.hid (gb_trans G3.out (gb_below b4 (some g)))
    have hk4 := drop_take_len noteC (Nat.le_of_lt hlt)
    generalize runLen noteC (s.drop j1) = k2 at *
    clear b4 L3 G3
    go_wp2_with fail
    refine (pass_any g s j1 k2 _ L4.out hk4).mono ?_; rintro e w5 ⟨rfl, l5, g5⟩
    have L5 := Lib.hid l5
    have G5 := Lib.hid (gb_trans G4.out g5)
    clear l5 g5 L4 G4
    go_wp2_with fail
    go_roundw
    case rel => exact ⟨j1 + k2, HN1, L5.out, G5.out⟩
    case measure => rw [L5.out.off, hof.out]; omega
   ·have e1 : ((c.toNat : Int) != 35) = true := by simp; omega
    have e1' : ((c.toNat : Int) == 35) = false := by simp; omega
    have hr := Lib.hid (hres.out h35)
    have HJ := Lib.hid hj1
    clear h35 hj1
    go_wp2_with fail
    refine wp_region_sched [(0, true), (1, true), (2, true), (3, true), (4, true), (5, true), (6, true), (7, true), (8, true), (9, true), (10, true), (11, true), (12, true), (13, true), (14, true), (15, true), (16, true), (17, true), (18, true), (19, true), (20, true), (21, true), (22, true), (23, true)] (by kernel_rfl) (by kernel_rfl) (fun _ _ d _ _ h => by cases d <;> exact h) ?_
    refine swith (fun W hW => (cells4 (L2.out.next ((Below.refl _ _).drew.trans (hW.out.mono (Nat.le_refl _)))).box)) (fun q => ?_)
    repeat (first | (refine sreadx rfl rfl ?_; apply Exists.intro; apply And.intro; (· (intro W hW; go_simp; try (first | with_reducible rfl | (rw [if_neg (by omega)]; try with_reducible rfl)))); simp only [Act.put, List.setIfInBounds_toArray, List.set_cons_zero, List.set_cons_succ]) | (refine sskip rfl rfl ?_; simp only [Act.put, List.setIfInBounds_toArray, List.set_cons_zero, List.set_cons_succ]))
    refine sdone ?_
    clear q
    go_wp2_with fail
    first | go_end0 | refine bodyPost_ret (results_none rfl _ _ _) rfl ?_
    exact ⟨rfl, by rw [hr.out]; exact L2.out.next (Below.refl _ _).drew, gb_trans G2.out (gb_below (Below.refl _ _).drew _)⟩
end Go.Proofs.YtnbmpfdffoidaaaGreat.X
