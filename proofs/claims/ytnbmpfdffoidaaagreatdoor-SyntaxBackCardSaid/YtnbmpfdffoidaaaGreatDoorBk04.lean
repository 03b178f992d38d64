/- Texts of the proof, joined: ShelfLex, Sched, ValFns, LexFns, LexRun. -/
import Derived.Test.YtnbmpfdffoidaaaGreatDoorBk01
import Derived.Test.YtnbmpfdffoidaaaGreatDoorBk03
import Derived.Shelf.Small.Strs
import Derived.Shelf.Strings.Search1
import Derived.Shelf.Strings.Count
import Derived.Shelf.Strings.LastIndex
import Derived.Shelf.Strings.Prefix
import Derived.Test.YtnbmpfdffoidaaaGreatDoorProg
import Derived.OrdersHeld
import Derived.Deep.RegionHeld
import Derived.Deep.RegionHeld3
import Derived.Outline
import Derived.Lib.Builder
import Derived.IntWalk
import Derived.Lib.LastIndexByte
set_option linter.unusedVariables false
set_option linter.unusedSimpArgs false
set_option maxHeartbeats 8000000
set_option maxRecDepth 100000
namespace Go.Proofs
open Go.Shelf
def Tryz.lays137_ren : Go.Shelf.Ren := ⟨fun | 137 => 133 | 217 => 157 | 266 => 173 | n => n, fun | 9 => 9 | 5 => 5 | 3 => 3 | n => n, fun | n => n⟩
theorem Tryz.lays137 : Go.Proofs.Lays.n137 Tryz.prog Tryz.lays137_ren := {
 mixed := by kernel_rfl
 f137 := Tryz.func133.trans (congrArg some (by kernel_rfl))
 f217 := Tryz.func157.trans (congrArg some (by kernel_rfl))
 f266 := Tryz.func173.trans (congrArg some (by kernel_rfl))
 t3 := Tryz.underlying3
 a3 := Tryz.isAgg3
 z3 := Tryz.sizeOf3
 v3 := Tryz.zeroValue3
 t5 := Tryz.underlying5
 a5 := Tryz.isAgg5
 z5 := Tryz.sizeOf5
 v5 := Tryz.zeroValue5
 t9 := Tryz.underlying9
 a9 := Tryz.isAgg9
 z9 := Tryz.sizeOf9
 v9 := Tryz.zeroValue9 }
open Go.RowKit in
theorem Tryz.strings_IndexByte (s : ByteArray) (c : Int) (w : World) :
  Calls Tryz.prog 133 #[.string s, .int .u8 c] w fun e w' => e = .returned (.int .i64 (Lib.indexByte s.data.toList c.toNat.toUInt8)) ∧ w' = w := Any.strings_IndexByte Tryz.lays137 s c w
def Tryz.lays138_ren : Go.Shelf.Ren := ⟨fun | 138 => 43 | 195 => 90 | 218 => 91 | 143 => 92 | 219 => 134 | 217 => 157 | 225 => 158 | 224 => 159 | 267 => 160 | 266 => 173 | 314 => 174 | n => n, fun | 9 => 9 | 3 => 3 | 4 => 4 | 5 => 5 | 0 => 0 | 46 => 182 | 146 => 165 | 51 => 164 | n => n, fun | 1 => 0 | n => n⟩
theorem Tryz.lays138 : Go.Proofs.Lays.n138 Tryz.prog Tryz.lays138_ren := {
 mixed := by kernel_rfl
 f138 := Tryz.func43.trans (congrArg some (by kernel_rfl))
 f143 := Tryz.func92.trans (congrArg some (by kernel_rfl))
 f195 := Tryz.func90.trans (congrArg some (by kernel_rfl))
 f217 := Tryz.func157.trans (congrArg some (by kernel_rfl))
 f218 := Tryz.func91.trans (congrArg some (by kernel_rfl))
 f219 := Tryz.func134.trans (congrArg some (by kernel_rfl))
 f224 := Tryz.func159.trans (congrArg some (by kernel_rfl))
 f225 := Tryz.func158.trans (congrArg some (by kernel_rfl))
 f266 := Tryz.func173.trans (congrArg some (by kernel_rfl))
 f267 := Tryz.func160.trans (congrArg some (by kernel_rfl))
 f314 := Tryz.func174.trans (congrArg some (by kernel_rfl))
 t0 := Tryz.underlying0
 a0 := Tryz.isAgg0
 z0 := Tryz.sizeOf0
 v0 := Tryz.zeroValue0
 t3 := Tryz.underlying3
 a3 := Tryz.isAgg3
 z3 := Tryz.sizeOf3
 v3 := Tryz.zeroValue3
 t4 := Tryz.underlying4
 a4 := Tryz.isAgg4
 z4 := Tryz.sizeOf4
 v4 := Tryz.zeroValue4
 t5 := Tryz.underlying5
 a5 := Tryz.isAgg5
 z5 := Tryz.sizeOf5
 v5 := Tryz.zeroValue5
 t9 := Tryz.underlying9
 a9 := Tryz.isAgg9
 z9 := Tryz.sizeOf9
 v9 := Tryz.zeroValue9
 t46 := Tryz.underlying182
 a46 := Tryz.isAgg182
 z46 := Tryz.sizeOf182
 v46 := Tryz.zeroValue182
 t51 := Tryz.underlying164
 a51 := Tryz.isAgg164
 z51 := Tryz.sizeOf164
 v51 := Tryz.zeroValue164
 t146 := Tryz.underlying165
 a146 := Tryz.isAgg165
 z146 := Tryz.sizeOf165
 v146 := Tryz.zeroValue165
 g1 := by kernel_rfl }
open Go.RowKit Go.Lib in
theorem Tryz.strings_Count_one (s : ByteArray) (c : UInt8) (w : World) :
  Calls Tryz.prog 43 #[.string s, .string ⟨#[c]⟩] w fun e w' => e = .returned (.int .i64 (Lib.countByte s.data.toList c)) ∧ w' = w := Any.strings_Count_one Tryz.lays138 s c w
def Tryz.lays149_ren : Go.Shelf.Ren := ⟨fun | 149 => 129 | 222 => 93 | n => n, fun | 9 => 9 | 5 => 5 | 3 => 3 | 4 => 4 | n => n, fun | n => n⟩
theorem Tryz.lays149 : Go.Proofs.Lays.n149 Tryz.prog Tryz.lays149_ren := {
 mixed := by kernel_rfl
 f149 := Tryz.func129.trans (congrArg some (by kernel_rfl))
 f222 := Tryz.func93.trans (congrArg some (by kernel_rfl))
 t3 := Tryz.underlying3
 a3 := Tryz.isAgg3
 z3 := Tryz.sizeOf3
 v3 := Tryz.zeroValue3
 t4 := Tryz.underlying4
 a4 := Tryz.isAgg4
 z4 := Tryz.sizeOf4
 v4 := Tryz.zeroValue4
 t5 := Tryz.underlying5
 a5 := Tryz.isAgg5
 z5 := Tryz.sizeOf5
 v5 := Tryz.zeroValue5
 t9 := Tryz.underlying9
 a9 := Tryz.isAgg9
 z9 := Tryz.sizeOf9
 v9 := Tryz.zeroValue9 }
open Go.RowKit Go.Lib in
theorem Tryz.strings_LastIndexByte (s : ByteArray) (c : Int) (hs : s.size < 4611686018427387904) (w : World) :
  Calls Tryz.prog 129 #[.string s, .int .u8 c] w fun e w' => e = .returned (.int .i64 (Lib.lastIndexByte s c)) ∧ w' = w := Any.strings_LastIndexByte Tryz.lays149 s c hs w
def Tryz.lays148_ren : Go.Shelf.Ren := ⟨fun | 148 => 44 | 222 => 93 | 223 => 94 | 269 => 135 | n => n, fun | 9 => 9 | 3 => 3 | 4 => 4 | 5 => 5 | 146 => 165 | 51 => 164 | 46 => 182 | n => n, fun | n => n⟩
theorem Tryz.lays148 : Go.Proofs.Lays.n148 Tryz.prog Tryz.lays148_ren := {
 mixed := by kernel_rfl
 f148 := Tryz.func44.trans (congrArg some (by kernel_rfl))
 f222 := Tryz.func93.trans (congrArg some (by kernel_rfl))
 f223 := Tryz.func94.trans (congrArg some (by kernel_rfl))
 f269 := Tryz.func135.trans (congrArg some (by kernel_rfl))
 t3 := Tryz.underlying3
 a3 := Tryz.isAgg3
 z3 := Tryz.sizeOf3
 v3 := Tryz.zeroValue3
 t4 := Tryz.underlying4
 a4 := Tryz.isAgg4
 z4 := Tryz.sizeOf4
 v4 := Tryz.zeroValue4
 t5 := Tryz.underlying5
 a5 := Tryz.isAgg5
 z5 := Tryz.sizeOf5
 v5 := Tryz.zeroValue5
 t9 := Tryz.underlying9
 a9 := Tryz.isAgg9
 z9 := Tryz.sizeOf9
 v9 := Tryz.zeroValue9
 t46 := Tryz.underlying182
 a46 := Tryz.isAgg182
 z46 := Tryz.sizeOf182
 v46 := Tryz.zeroValue182
 t51 := Tryz.underlying164
 a51 := Tryz.isAgg164
 z51 := Tryz.sizeOf164
 v51 := Tryz.zeroValue164
 t146 := Tryz.underlying165
 a146 := Tryz.isAgg165
 z146 := Tryz.sizeOf165
 v146 := Tryz.zeroValue165 }
open Go.RowKit Go.Lib in
theorem Tryz.strings_LastIndex_one (s sub : ByteArray) (h1 : sub.size = 1) (hs : s.size < 4611686018427387904) (w : World) :
  Calls Tryz.prog 44 #[.string s, .string sub] w fun e w' => e = .returned (.int .i64 (Lib.lastIndexByte s ((sub[0]'(by omega)).toNat : Int))) ∧ w' = w := Any.strings_LastIndex_one Tryz.lays148 s sub h1 hs w
def Tryz.lays99_ren : Go.Shelf.Ren := ⟨fun | 99 => 132 | 206 => 156 | n => n, fun | 9 => 9 | 4 => 4 | 3 => 3 | n => n, fun | n => n⟩
theorem Tryz.lays99 : Go.Proofs.Lays.n99 Tryz.prog Tryz.lays99_ren := {
 mixed := by kernel_rfl
 f99 := Tryz.func132.trans (congrArg some (by kernel_rfl))
 f206 := Tryz.func156.trans (congrArg some (by kernel_rfl))
 t3 := Tryz.underlying3
 a3 := Tryz.isAgg3
 z3 := Tryz.sizeOf3
 v3 := Tryz.zeroValue3
 t4 := Tryz.underlying4
 a4 := Tryz.isAgg4
 z4 := Tryz.sizeOf4
 v4 := Tryz.zeroValue4
 t9 := Tryz.underlying9
 a9 := Tryz.isAgg9
 z9 := Tryz.sizeOf9
 v9 := Tryz.zeroValue9 }
open Go.RowKit Go.Lib in
theorem Tryz.strings_HasPrefix (s p : ByteArray) (w : World) :
  Calls Tryz.prog 132 #[.string s, .string p] w fun e w' => e = .returned (.bool (Lib.hasPrefix s.data.toList p.data.toList)) ∧ w' = w := Any.strings_HasPrefix Tryz.lays99 s p w
end Go.Proofs
namespace Go.Proofs.YtnbmpfdffoidaaaGreatDoor
open Go.RowKit
def Grow (w W : World) : Prop := Below w.heap.size w W
theorem Grow.out {w W : World} (h : Grow w W) : Below w.heap.size w W := h
theorem Grow.refl (w : World) : Grow w w := Below.refl _ _
theorem Grow.trans {a b c : World} (h : Grow a b) (k : Grow b c) : Grow a c := bthen h k
section
variable {P : Program} {ops : Array Oper} {Q : Exit → Act → World → Prop} {md : Region.Mode}
theorem wpAnyH_imp {S S' : World → Prop} (h : ∀ W, S' W → S W) : ∀ (fuel : Nat) (listed : Array Bool) (a : Act) (w : World), wpAnyH P md ops Q S' fuel listed a w → wpAnyH P md ops Q S fuel listed a w
 | 0, _, _, _, hh => hh
 | fuel + 1, _, _, _, hh => ⟨hh.1, fun i hi => wpOp_mono (fun a' w' h' => ⟨h w' h'.1, wpAnyH_imp h fuel _ a' w' h'.2⟩) (hh.2 i hi)⟩
def wpSched (P : Program) (ops : Array Oper) (Q : Exit → Act → World → Prop) : List (Nat × Bool) → Act → World → Prop
  | [], a, w => Q .normal a w
  | (i, true) :: rest, a, w => ∃ o, ops[i]? = some o ∧
      ((Region.wanted o (yielded ops a.tmps) = true ∧ ∃ v, (∀ W, Grow w W → (execOp a.eval o).run P W = .ok (.value v) W) ∧ wpSched P ops Q rest (a.put o.dst v) w) ∨
       (Region.wanted o (yielded ops a.tmps) = false ∧ wpSched P ops Q rest (a.put o.dst undef) w))
  | (i, false) :: rest, a, w => ∃ o, ops[i]? = some o ∧
      ((Region.wanted o (yielded ops a.tmps) = true ∧ o.wp P a w (fun a' w' => Grow w w' ∧ wpSched P ops Q rest a' w') Q) ∨
       (Region.wanted o (yielded ops a.tmps) = false ∧ wpSched P ops Q rest (a.put o.dst undef) w))
def schedOk (md : Region.Mode) (ops : Array Oper) : Array Bool → List (Nat × Bool) → Bool
 | listed, [] => (Region.ready md ops listed).isEmpty
 | listed, (i, true) :: rest => Region.free md ops listed i && (Region.ready md ops listed).contains i && schedOk md ops (listed.setIfInBounds i true) rest
 | listed, (i, false) :: rest => (Region.ready md ops listed == [i]) && schedOk md ops (listed.setIfInBounds i true) rest
theorem wpAnyH_sched (hs : Region.noSelect ops = true) (hQ : ∀ c a d v w, Q (.panic c) (a.put d v) w → Q (.panic c) a w) :
  ∀ (steps : List (Nat × Bool)) (listed : Array Bool) (a : Act) (w : World), schedOk md ops listed steps = true → wpSched P ops Q steps a w → wpAnyH P md ops Q (Grow w) steps.length listed a w
 | [], listed, a, w, hok, h => ⟨by simpa [schedOk] using hok, h⟩
 | (i, true) :: rest, listed, a, w, hok, h => by
  simp only [schedOk, Bool.and_eq_true] at hok
  obtain ⟨⟨hf, hr⟩, hok⟩ := hok
  obtain ⟨o, hi, h⟩ := h
  rcases h with ⟨hw, v, hv, h⟩ | ⟨hw, h⟩
  ·exact wpAnyH_take (v := v) hi hs hf hr (fun c a w => hQ c a o.dst v w) (.inl ⟨hw, hv⟩) (Grow.refl w) (wpAnyH_sched hs hQ rest _ _ w hok h)
  ·exact wpAnyH_take (v := undef) hi hs hf hr (fun c a w => hQ c a o.dst undef w) (.inr ⟨hw, rfl⟩) (Grow.refl w) (wpAnyH_sched hs hQ rest _ _ w hok h)
 | (i, false) :: rest, listed, a, w, hok, h => by
  simp only [schedOk, Bool.and_eq_true, beq_iff_eq] at hok
  obtain ⟨hr, hok⟩ := hok
  obtain ⟨o, hi, h⟩ := h
  refine wpAnyH_all hr (by simp) fun j hj => ?_
  obtain rfl : j = i := by simpa using hj
  unfold wpOp
  simp only [hi]
  rcases h with ⟨hw, h⟩ | ⟨hw, h⟩
  ·simp only [hw, if_true]
   refine .inl (Oper.wp_mono (fun a' w' h' => ⟨h'.1, ?_⟩) h)
   exact wpAnyH_imp (fun W hW => h'.1.trans hW) _ _ _ _ (wpAnyH_sched hs hQ rest _ a' w' hok h'.2)
  ·simp only [hw, Bool.false_eq_true, if_false]
   exact ⟨Grow.refl w, wpAnyH_sched hs hQ rest _ _ w hok h⟩
theorem wp_region_sched {id : Nat} {a : Act} {w : World} (steps : List (Nat × Bool)) (hm : P.follows .mixedOrders = true)
  (hok : (Region.noSelect ops && steps.length == ops.size && schedOk .any ops (Array.replicate ops.size false) steps) = true)
  (hQ : ∀ c a d v w, Q (.panic c) (a.put d v) w → Q (.panic c) a w) (h : wpSched P ops Q steps a w.drew) : (Code.region id ops true).wp P Q a w := by
 simp only [Bool.and_eq_true, beq_iff_eq] at hok
 obtain ⟨⟨hs, hl⟩, hok⟩ := hok
 refine wp_region_held (S := Grow w.drew) hm ?_
 rw [← hl]
 exact wpAnyH_sched hs hQ steps _ a w.drew (by rw [hl]; exact hok) h
theorem sskip {l : List Oper} {i : Nat} {b : Bool} {rest : List (Nat × Bool)} {a : Act} {w : World} {o : Oper} (hi : l[i]? = some o) (hw : Region.wanted o (yielded l.toArray a.tmps) = false)
  (h : wpSched P l.toArray Q rest (a.put o.dst undef) w) : wpSched P l.toArray Q ((i, b) :: rest) a w := by cases b <;> exact ⟨o, by simpa using hi, .inr ⟨hw, h⟩⟩
theorem sdone {a : Act} {w : World} (h : Q .normal a w) : wpSched P ops Q [] a w := h
theorem scall {l : List Oper} {i : Nat} {rest : List (Nat × Bool)} {a : Act} {w : World} {o : Oper} (hi : l[i]? = some o) (hw : Region.wanted o (yielded l.toArray a.tmps) = true)
  (h : ∀ K : Act → World → Prop, Shut (∀ a' w', Grow w w' → wpSched P l.toArray Q rest a' w' → K a' w') → o.wp P a w K Q) : wpSched P l.toArray Q ((i, false) :: rest) a w :=
 ⟨o, by simpa using hi, .inl ⟨hw, h _ (fun _ _ hg hk => ⟨hg, hk⟩)⟩⟩
theorem sreadx {l : List Oper} {i : Nat} {rest : List (Nat × Bool)} {a : Act} {w : World} {o : Oper} (hi : l[i]? = some o) (hw : Region.wanted o (yielded l.toArray a.tmps) = true)
  (h : ∃ v, (∀ W, Grow w W → (execOp a.eval o).run P W = .ok (.value v) W) ∧ wpSched P l.toArray Q rest (a.put o.dst v) w) : wpSched P l.toArray Q ((i, true) :: rest) a w := ⟨o, by simpa using hi, .inl ⟨hw, h⟩⟩
theorem swith {steps : List (Nat × Bool)} {a : Act} {w : World} {p : World → Prop} (h1 : ∀ W, Grow w W → p W) (h2 : (∀ W, Grow w W → p W) → wpSched P ops Q steps a w) : wpSched P ops Q steps a w := h2 h1
end
end Go.Proofs.YtnbmpfdffoidaaaGreatDoor
namespace Go.Proofs.YtnbmpfdffoidaaaGreatDoor.V
open Go.RowKit O
theorem box_next {w w' : World} {g : Nat} {o : Obj} (h : w.heap[g]? = some o) (b : Below w.heap.size w w') : w'.heap[g]? = some o := by
 have hg : g < w.heap.size := (Array.getElem?_eq_some_iff.1 h).1
 rw [b.block g hg]; exact h
theorem alloc_at {w : World} {o : Obj} {k : Nat} (h : k = w.heap.size) : (w.alloc o).heap[k]? = some o := by subst h; exact heap_alloc_new w o
theorem alloc_old' {w : World} {o x : Obj} {k : Nat} (h : w.heap[k]? = some x) : (w.alloc o).heap[k]? = some x := by
 rw [Lib.alloc_old w o k (Array.getElem?_eq_some_iff.1 h).1]; exact h
def vv (v : Val) : Value := .agg #[.int .i64 v.k, .int .i64 v.n, .string ⟨v.s.toArray⟩]
theorem all_step {s : List UInt8} {k : Nat} (h : k < s.length) (ha : (s.take k).all okC = true) : (s.take (k + 1)).all okC = okC s[k] := by
 rw [List.take_succ_eq_append_getElem h, List.all_append, ha]
 simp
theorem all_no {s : List UInt8} {k : Nat} (h : k < s.length) (hc : okC s[k] = false) : plainL s = false := by
 unfold plainL
 have : s.all okC = false := by
  rw [List.all_eq_false]
  exact ⟨s[k], List.getElem_mem h, by simp [hc]⟩
 rw [this]; rfl
theorem ba_at (s : List UInt8) (k : Nat) (h : k < s.length) {c : UInt8} (hc : s[k] = c) : (ByteArray.mk s.toArray)[k]'(by simpa [ByteArray.size] using h) = c := hc
theorem okC_yes {c : UInt8} (h : okC c = true) : 32 ≤ (c.toNat : Int) ∧ (c.toNat : Int) ≤ 126 := by simp [okC] at h; omega
theorem okC_no {c : UInt8} (h : okC c = false) : (c.toNat : Int) < 32 ∨ (32 ≤ (c.toNat : Int) ∧ 126 < (c.toNat : Int)) := by simp [okC] at h; omega
theorem all_end {s : List UInt8} (h : (s.take s.length).all okC = true) : plainL s = decide ((s.length : Int) ≤ 32) := by
 rw [List.take_length] at h
 unfold plainL
 rw [h]
 simp
 omega
theorem plain_any (s : List UInt8) (w : World) (hs : s.length ≤ 1000000000000) : Calls Tryz.prog 143 #[.string ⟨s.toArray⟩] w fun e w' => e = .returned (.bool (plainL s)) ∧ w = w' := by
 have hsz : (ByteArray.mk s.toArray).size = s.length := by simp [ByteArray.size]
 go_enter Tryz.func143, Tryz.ntmps143
 go_wp2_with fail
 go_loop [2, 3, 6] (fun _ _ i => ∃ k : Nat, k ≤ s.length ∧ i = .int .i64 k ∧ Hid ((s.take k).all okC = true)) (fun _ _ i => s.length - (intOf i).toNat)
 case atStart => exact ⟨0, by omega, rfl, Lib.hid (by simp)⟩
 case round =>
  obtain ⟨k, hk, rfl, H⟩ := hrel
  by_cases hlt : k < s.length
  ·have hn := Lib.hid (all_step hlt H.out)
   have hno := Lib.hid (all_no hlt)
   generalize hc : s[k] = c at hn hno
   have hx := ba_at s k hlt hc
   cases ho : okC c
   ·rcases okC_no ho with h1 | ⟨h1, h2⟩
    all_goals
     go_wp2_with fail
     go_ret
     exact ⟨by rw [hno.out ho]; rfl, rfl⟩
   ·obtain ⟨h1, h2⟩ := okC_yes ho
    go_wp2_with fail
    go_round
    case rel => exact ⟨k + 1, by omega, by go_num, Lib.hid (by rw [hn.out, ho])⟩
    case measure => simp [intOf]; omega
  ·obtain rfl : k = s.length := by omega
   have he := Lib.hid (all_end H.out)
   go_wp2_with fail
   go_ret
   exact ⟨by rw [he.out]; rfl, rfl⟩
theorem right_any (v : Val) (w : World) (hs : v.s.length ≤ 1000000000000) : Calls Tryz.prog 108 #[vv v] w fun e w' => e = .returned (.bool (right v)) ∧ Below w.heap.size w w' := by
 obtain ⟨k, n, s⟩ := v
 simp only [vv]
 by_cases h1 : k = 1
 ·subst h1
  go_enter Tryz.func108, Tryz.ntmps108
  go_wp2_with fail
  go_ret
  exact ⟨by simp [right], (Below.refl _ _).alloc (Nat.le_refl _) _⟩
 ·by_cases h2 : k = 2
  ·subst h2
   cases he : s.isEmpty
   ·go_enter Tryz.func108, Tryz.ntmps108
    go_wp2_with fail
    go_ret
    exact ⟨by simp [right, he], (Below.refl _ _).alloc (Nat.le_refl _) _⟩
   ·by_cases h0 : n = 0
    ·subst h0
     go_enter Tryz.func108, Tryz.ntmps108
     go_wp2_with fail
     go_ret
     exact ⟨by simp [right, he], (Below.refl _ _).alloc (Nat.le_refl _) _⟩
    ·go_enter Tryz.func108, Tryz.ntmps108
     go_wp2_with fail
     go_ret
     exact ⟨by simp [right, he, h0], (Below.refl _ _).alloc (Nat.le_refl _) _⟩
  ·by_cases h3 : k = 3
   ·subst h3
    by_cases h0 : n = 0
    ·subst h0
     go_enter Tryz.func108, Tryz.ntmps108
     go_wp2_with fail
     refine (plain_any s _ hs).mono ?_; rintro e w1 ⟨rfl, rfl⟩
     go_wp2_with fail
     go_ret
     exact ⟨by simp [right], (Below.refl _ _).alloc (Nat.le_refl _) _⟩
    ·go_enter Tryz.func108, Tryz.ntmps108
     go_wp2_with fail
     go_ret
     exact ⟨by simp [right, h0], (Below.refl _ _).alloc (Nat.le_refl _) _⟩
   ·go_enter Tryz.func108, Tryz.ntmps108
    go_wp2_with fail
    go_ret
    exact ⟨by simp [right, h1, h2, h3], (Below.refl _ _).alloc (Nat.le_refl _) _⟩
def tv (k m : Int) : Value := .agg #[.int .i64 k, .int .i64 m]
def rightT (k m : Int) : Bool := ((k == 1 || k == 2) && m == 0) || (k == 3 && decide (1 ≤ m) && decide (m ≤ 32))
theorem rightType_any (k m : Int) (w : World) : Calls Tryz.prog 113 #[tv k m] w fun e w' => e = .returned (.bool (rightT k m)) ∧ Below w.heap.size w w' := by
 simp only [tv]
 by_cases h1 : k = 1
 ·subst h1
  go_enter Tryz.func113, Tryz.ntmps113
  go_wp2_with fail
  go_ret
  exact ⟨by simp [rightT], (Below.refl _ _).alloc (Nat.le_refl _) _⟩
 ·by_cases h2 : k = 2
  ·subst h2
   go_enter Tryz.func113, Tryz.ntmps113
   go_wp2_with fail
   go_ret
   exact ⟨by simp [rightT], (Below.refl _ _).alloc (Nat.le_refl _) _⟩
  ·by_cases h3 : k = 3
   ·subst h3
    by_cases h0 : 1 ≤ m
    ·go_enter Tryz.func113, Tryz.ntmps113
     go_wp2_with fail
     go_ret
     exact ⟨by simp [rightT, h0], (Below.refl _ _).alloc (Nat.le_refl _) _⟩
    ·go_enter Tryz.func113, Tryz.ntmps113
     go_wp2_with fail
     go_ret
     exact ⟨by simp [rightT]; omega, (Below.refl _ _).alloc (Nat.le_refl _) _⟩
   ·go_enter Tryz.func113, Tryz.ntmps113
    go_wp2_with fail
    go_ret
    exact ⟨by simp [rightT, h1, h2, h3], (Below.refl _ _).alloc (Nat.le_refl _) _⟩
def zeroT (k m : Int) : Val := if rightT k m then ⟨k, 0, []⟩ else ⟨0, 0, []⟩
end Go.Proofs.YtnbmpfdffoidaaaGreatDoor.V
namespace Go.Proofs.YtnbmpfdffoidaaaGreatDoor.X
open Go.RowKit O V S
theorem heap_set {w : World} {b i : Nat} {cs : Array Value} {T : TypeId} (hb : w.heap[b]? = some (.cells cs T (0, 0))) (v : Value) : (w.setCell ⟨b, i, none⟩ v).heap[b]? = some (.cells (cs.setIfInBounds i v) T (0, 0)) := by
 simp [World.setCell, Array.getElem?_modify, hb]
theorem gb_trans {a b c : World} {row : Option Nat} (h : a.grownBy b row) (k : b.grownBy c row) : a.grownBy c row :=
 ⟨k.os.trans h.os, k.tape.trans h.tape, k.output.trans h.output, Nat.le_trans h.size k.size, fun i hi hne => (k.block i (Nat.lt_of_lt_of_le hi h.size) hne).trans (h.block i hi hne)⟩
theorem gb_below {a b : World} (h : Below a.heap.size a b) (row : Option Nat) : a.grownBy b row := ⟨h.os, h.tape, h.output, h.size, fun i hi _ => h.block i hi⟩
theorem gb_set (w : World) (g j : Nat) (v : Value) : w.grownBy (w.setCell ⟨g, j, none⟩ v) (some g) := ⟨rfl, rfl, rfl, by simp, fun i _ hi => Below.heap_setCell _ _ _ _ (fun e => hi (by rw [e]))⟩
def isN (c : UInt8) (n : Nat) : Bool := decide (c.toNat = n)
theorem isN_b {c : UInt8} {n : Nat} {b : Bool} (h : isN c n = b) : ((c.toNat : Int) == (n : Int)) = b := by
 subst h; unfold isN; rw [Bool.eq_iff_iff]; simp; omega
theorem lblank_any (c : UInt8) (w : World) : Calls Tryz.prog 80 #[.int .u8 (c.toNat : Int)] w fun e w' => e = .returned (.bool (blankC c)) ∧ w = w' := by
 have hb : blankC c = (isN c 32 || (isN c 9 || (isN c 10 || isN c 13))) := rfl
 cases h1 : isN c 32
 ·cases h2 : isN c 9
  ·cases h3 : isN c 10
   ·cases h4 : isN c 13
    all_goals
     have e1 := isN_b h1
     have e2 := isN_b h2
     have e3 := isN_b h3
     have e4 := isN_b h4
     have HB := Lib.hid (show blankC c = _ by rw [hb, h1, h2, h3, h4])
     clear h1 h2 h3 h4 hb
     simp only [Int.cast_ofNat_Int] at e1 e2 e3 e4
     go_enter Tryz.func80, Tryz.ntmps80
     go_wp2_with fail
     go_ret
     exact ⟨by rw [HB.out]; rfl, rfl⟩
   ·have e1 := isN_b h1
    have e2 := isN_b h2
    have e3 := isN_b h3
    have HB := Lib.hid (show blankC c = true by rw [hb, h1, h2, h3]; rfl)
    clear h1 h2 h3 hb
    simp only [Int.cast_ofNat_Int] at e1 e2 e3
    go_enter Tryz.func80, Tryz.ntmps80
    go_wp2_with fail
    go_ret
    exact ⟨by rw [HB.out]; rfl, rfl⟩
  ·have e1 := isN_b h1
   have e2 := isN_b h2
   have HB := Lib.hid (show blankC c = true by rw [hb, h1, h2]; rfl)
   clear h1 h2 hb
   simp only [Int.cast_ofNat_Int] at e1 e2
   go_enter Tryz.func80, Tryz.ntmps80
   go_wp2_with fail
   go_ret
   exact ⟨by rw [HB.out]; rfl, rfl⟩
 ·have e1 := isN_b h1
  have HB := Lib.hid (show blankC c = true by rw [hb, h1]; rfl)
  clear h1 hb
  simp only [Int.cast_ofNat_Int] at e1
  go_enter Tryz.func80, Tryz.ntmps80
  go_wp2_with fail
  go_ret
  exact ⟨by rw [HB.out]; rfl, rfl⟩
theorem lsmall_any (c : UInt8) (w : World) : Calls Tryz.prog 83 #[.int .u8 (c.toNat : Int)] w fun e w' => e = .returned (.bool (smallC c)) ∧ w = w' := by
 by_cases h1 : (c.toNat : Int) ≥ 97
 ·have d1 : decide ((c.toNat : Int) ≥ 97) = true := by simp; omega
  by_cases h2 : (c.toNat : Int) ≤ 122
  ·have d2 : decide ((c.toNat : Int) ≤ 122) = true := by simp; omega
   have HB := Lib.hid (show smallC c = true by unfold smallC; simp; omega)
   clear h1 h2
   go_enter Tryz.func83, Tryz.ntmps83
   go_wp2_with fail
   go_ret
   exact ⟨by rw [HB.out]; rfl, rfl⟩
  ·have d2 : decide ((c.toNat : Int) ≤ 122) = false := by simp; omega
   have HB := Lib.hid (show smallC c = false by unfold smallC; simp; omega)
   clear h1 h2
   go_enter Tryz.func83, Tryz.ntmps83
   go_wp2_with fail
   go_ret
   exact ⟨by rw [HB.out]; rfl, rfl⟩
 ·have d1 : decide ((c.toNat : Int) ≥ 97) = false := by simp; omega
  have HB := Lib.hid (show smallC c = false by unfold smallC; simp; omega)
  clear h1
  go_enter Tryz.func83, Tryz.ntmps83
  go_wp2_with fail
  go_ret
  exact ⟨by rw [HB.out]; rfl, rfl⟩
theorem ldigit_any (c : UInt8) (w : World) : Calls Tryz.prog 85 #[.int .u8 (c.toNat : Int)] w fun e w' => e = .returned (.bool (digitC c)) ∧ w = w' := by
 by_cases h1 : (c.toNat : Int) ≥ 48
 ·have d1 : decide ((c.toNat : Int) ≥ 48) = true := by simp; omega
  by_cases h2 : (c.toNat : Int) ≤ 57
  ·have d2 : decide ((c.toNat : Int) ≤ 57) = true := by simp; omega
   have HB := Lib.hid (show digitC c = true by unfold digitC; simp; omega)
   clear h1 h2
   go_enter Tryz.func85, Tryz.ntmps85
   go_wp2_with fail
   go_ret
   exact ⟨by rw [HB.out]; rfl, rfl⟩
  ·have d2 : decide ((c.toNat : Int) ≤ 57) = false := by simp; omega
   have HB := Lib.hid (show digitC c = false by unfold digitC; simp; omega)
   clear h1 h2
   go_enter Tryz.func85, Tryz.ntmps85
   go_wp2_with fail
   go_ret
   exact ⟨by rw [HB.out]; rfl, rfl⟩
 ·have d1 : decide ((c.toNat : Int) ≥ 48) = false := by simp; omega
  have HB := Lib.hid (show digitC c = false by unfold digitC; simp; omega)
  clear h1
  go_enter Tryz.func85, Tryz.ntmps85
  go_wp2_with fail
  go_ret
  exact ⟨by rw [HB.out]; rfl, rfl⟩
theorem lnote_any (c : UInt8) (w : World) : Calls Tryz.prog 81 #[.int .u8 (c.toNat : Int)] w fun e w' => e = .returned (.bool (noteC c)) ∧ w = w' := by
 by_cases h : c.toNat = 10
 ·have d : ((c.toNat : Int) != 10) = false := by simp; omega
  have d' : ((c.toNat : Int) == 10) = true := by simp; omega
  have HB := Lib.hid (show noteC c = false by unfold noteC; simp; omega)
  clear h
  go_enter Tryz.func81, Tryz.ntmps81
  go_wp2_with fail
  go_ret
  exact ⟨by rw [HB.out]; rfl, rfl⟩
 ·have d : ((c.toNat : Int) != 10) = true := by simp; omega
  have d' : ((c.toNat : Int) == 10) = false := by simp; omega
  have HB := Lib.hid (show noteC c = true by unfold noteC; simp; omega)
  clear h
  go_enter Tryz.func81, Tryz.ntmps81
  go_wp2_with fail
  go_ret
  exact ⟨by rw [HB.out]; rfl, rfl⟩
theorem lword_any (c : UInt8) (w : World) : Calls Tryz.prog 84 #[.int .u8 (c.toNat : Int)] w fun e w' => e = .returned (.bool (wordC c)) ∧ w = w' := by
 have hb : wordC c = (smallC c || (digitC c || isN c 95)) := rfl
 have HB := Lib.hid hb
 clear hb
 cases h3 : isN c 95
 all_goals
  have e3 := isN_b h3
  have H3 := Lib.hid h3
  clear h3
  simp only [Int.cast_ofNat_Int] at e3
  go_enter Tryz.func84, Tryz.ntmps84
  go_wp2_with fail
  refine (lsmall_any c _).mono ?_; rintro e w1 ⟨rfl, rfl⟩
  cases h1 : smallC c
  ·go_wp2_with fail
   refine (ldigit_any c _).mono ?_; rintro e w2 ⟨rfl, rfl⟩
   cases h2 : digitC c
   ·go_wp2_with fail
    go_ret
    exact ⟨by rw [HB.out, h1, h2, H3.out]; rfl, rfl⟩
   ·go_wp2_with fail
    go_ret
    exact ⟨by rw [HB.out, h1, h2]; rfl, rfl⟩
  ·go_wp2_with fail
   go_ret
   exact ⟨by rw [HB.out, h1]; rfl, rfl⟩
end Go.Proofs.YtnbmpfdffoidaaaGreatDoor.X
namespace Go.Proofs.YtnbmpfdffoidaaaGreatDoor.X
open Go.RowKit O V S
structure Lx (w : World) (g : Nat) (s : List UInt8) (i : Nat) : Prop where
 box : w.heap[g]? = some (.cells #[.int .i64 (i : Int), .int .i64 (lineOf s i : Int), .int .i64 (startOf s i : Int), .string ⟨s.toArray⟩] 99 (0, 0))
 i : i ≤ s.length
 n : s.length ≤ 20000
theorem Lx.lt {w : World} {g : Nat} {s : List UInt8} {i : Nat} (h : Lx w g s i) : g < w.heap.size := (Array.getElem?_eq_some_iff.1 h.box).1
theorem Lx.next {w W : World} {g : Nat} {s : List UInt8} {i : Nat} (h : Lx w g s i) (b : Below w.heap.size w W) : Lx W g s i := ⟨box_next h.box b, h.i, h.n⟩
theorem cells4 {W : World} {g : Nat} {x y z u : Value} {T : TypeId} (h : W.heap[g]? = some (.cells #[x, y, z, u] T (0, 0))) : (W.cell? ⟨g, 0, none⟩ = some x ∧ W.cell? ⟨g, 1, none⟩ = some y) ∧ W.cell? ⟨g, 2, none⟩ = some z ∧ W.cell? ⟨g, 3, none⟩ = some u :=
 ⟨⟨by rw [Lib.cell_of_heap h]; rfl, by rw [Lib.cell_of_heap h]; rfl⟩, by rw [Lib.cell_of_heap h]; rfl, by rw [Lib.cell_of_heap h]; rfl⟩
theorem run_step {p : UInt8 → Bool} {t : List UInt8} {k : Nat} (hk : k < t.length) (ha : (t.take k).all p = true) : runLen p t = if p t[k] then runLen p t else k := by
 split
 ·rfl
 ·rename_i h
  have hz : ∀ (k : Nat) (t : List UInt8) (hk : k < t.length), (t.take k).all p = true → p t[k] = false → runLen p t = k := by
   intro k
   induction k with
   | zero =>
    intro t hk _ hp
    match t, hk with
    | c :: r, _ => unfold runLen; rw [if_neg (by simpa using hp)]
   | succ k ih =>
    intro t hk ha hp
    match t, hk with
    | c :: r, hk =>
     simp only [List.take_succ_cons, List.all_cons, Bool.and_eq_true] at ha
     unfold runLen
     rw [if_pos ha.1, ih r (by simpa using hk) ha.2 (by simpa using hp)]
  exact hz k t hk ha (by simpa using h)
theorem run_all {p : UInt8 → Bool} : ∀ {t : List UInt8}, t.all p = true → runLen p t = t.length
 | [], _ => rfl
 | c :: r, h => by
  simp only [List.all_cons, Bool.and_eq_true] at h
  unfold runLen
  rw [if_pos h.1, run_all h.2]
  rfl
theorem all_snoc {p : UInt8 → Bool} {t : List UInt8} {k : Nat} (hk : k < t.length) (ha : (t.take k).all p = true) (hp : p t[k] = true) : (t.take (k + 1)).all p = true := by
 rw [List.take_succ_eq_append_getElem hk, List.all_append, ha]; simp [hp]
theorem run_blank (g : Nat) (s : List UInt8) (i : Nat) (w : World) (h : Lx w g s i) : Calls Tryz.prog 79 #[.pointer (some ⟨g, 0, none⟩), .func (.func 80) #[] #[]] w fun e w' => e = .returned (.int .i64 (runLen blankC (s.drop i) : Int)) ∧ Below w.heap.size w w' := by
 have hi := h.i
 have hn := h.n
 have HL := Lib.hid h
 have hsz : (ByteArray.mk s.toArray).size = s.length := by simp [ByteArray.size]
 clear h
 go_enter Tryz.func79, Tryz.ntmps79
 go_wp2_with fail
 go_loopw [4] (fun v wr => ∃ k : Nat, i + k ≤ s.length ∧ v = .int .i64 k ∧ Hid (((s.drop i).take k).all blankC = true) ∧ Below w.heap.size w wr) (fun v _ => s.length - (intOf v).toNat)
 case atStart => exact ⟨0, by omega, rfl, Lib.hid (by simp), Below.refl _ _⟩
 case round =>
  obtain ⟨k, hk, rfl, H, hb⟩ := hrel
  obtain ⟨m, hm⟩ : ∃ m, i + k = m := ⟨_, rfl⟩
  have hwr : IntKind.i64.wrap ((i : Int) + (k : Int)) = (m : Int) := by rw [IntWalk.i64_in _ (by omega)]; omega
  by_cases hlt : m < s.length
  ·have hlt' : k < (s.drop i).length := by simp; omega
   have hst := Lib.hid (all_snoc (p := blankC) hlt' H.out)
   have hno := Lib.hid (run_step (p := blankC) hlt' H.out)
   generalize hc : (s.drop i)[k] = c at hst hno
   rw [List.getElem_drop] at hc
   have hx := ba_at s m hlt (by simpa only [hm] using hc)
   have d1 : decide ((m : Int) < (s.length : Int)) = true := by simp; omega
   have d2 : decide (m < s.length) = true := by simp; omega
   have hm1 : i + k ≤ m ∧ m ≤ i + k := by omega
   clear hm hc
   go_wp2_with fail
   refine wp_region_sched [(0, true), (1, true), (2, true), (3, true), (4, true), (5, true), (6, true), (7, true), (8, true), (9, true), (10, true), (11, true), (12, true), (13, true), (14, true), (15, true), (16, true), (17, true), (18, true), (19, true), (20, true), (21, true), (22, true), (23, true), (24, true), (25, true), (26, true), (27, false), (28, true)] (by kernel_rfl) (by kernel_rfl) (fun _ _ d _ _ h => by cases d <;> exact h) ?_
   refine swith (fun W hW => (cells4 (HL.out.next (hb.drew.trans (hW.out.mono hb.size))).box)) (fun q => ?_)
   repeat (first | (refine sreadx rfl rfl ?_; apply Exists.intro; apply And.intro; (· (intro W hW; go_simp; try (first | with_reducible rfl | (rw [if_neg (by omega)]; try with_reducible rfl)))); simp only [Act.put, List.setIfInBounds_toArray, List.set_cons_zero, List.set_cons_succ]) | (refine sskip rfl rfl ?_; simp only [Act.put, List.setIfInBounds_toArray, List.set_cons_zero, List.set_cons_succ]))
   refine scall rfl rfl (fun K hK => ?_)
   go_simp
   refine (lblank_any c _).mono ?_; rintro e w2 ⟨rfl, rfl⟩
   go_wp2_with fail
   refine hK.out _ _ (by exact Grow.refl _) ?_
   clear hK K
   try simp only [Act.put, List.setIfInBounds_toArray, List.set_cons_zero, List.set_cons_succ]
   cases hp : blankC c
   ·have hno' := Lib.hid (hno.out.trans (if_neg (by simp [hp])))
    repeat (first | (refine sreadx rfl rfl ?_; apply Exists.intro; apply And.intro; (· (intro W hW; go_simp; try (first | with_reducible rfl | (rw [if_neg (by omega)]; try with_reducible rfl)))); simp only [Act.put, List.setIfInBounds_toArray, List.set_cons_zero, List.set_cons_succ]) | (refine sskip rfl rfl ?_; simp only [Act.put, List.setIfInBounds_toArray, List.set_cons_zero, List.set_cons_succ]))
    refine sdone ?_
    clear q hwr
    go_wp2_with fail
    go_ret
    exact ⟨by rw [hno'.out]; rfl, hb.drew⟩
   ·have hst' := Lib.hid (hst.out hp)
    repeat (first | (refine sreadx rfl rfl ?_; apply Exists.intro; apply And.intro; (· (intro W hW; go_simp; try (first | with_reducible rfl | (rw [if_neg (by omega)]; try with_reducible rfl)))); simp only [Act.put, List.setIfInBounds_toArray, List.set_cons_zero, List.set_cons_succ]) | (refine sskip rfl rfl ?_; simp only [Act.put, List.setIfInBounds_toArray, List.set_cons_zero, List.set_cons_succ]))
    refine sdone ?_
    clear q hwr
    go_wp2_with fail
    go_roundw
    case rel => exact ⟨k + 1, by omega, by go_num, hst', hb.drew⟩
    case measure => simp [intOf]; omega
  ·have d1 : decide ((m : Int) < (s.length : Int)) = false := by simp; omega
   have d2 : decide (m < s.length) = false := by simp; omega
   have hm1 : i + k ≤ m ∧ m ≤ i + k := by omega
   clear hm
   go_wp2_with fail
   refine wp_region_sched [(0, true), (1, true), (2, true), (3, true), (4, true), (5, true), (6, true), (7, true), (8, true), (9, true), (10, true), (11, true), (12, true), (13, true), (14, true), (15, true), (16, true), (17, true), (18, true), (19, true), (20, true), (21, true), (22, true), (23, true), (24, true), (25, true), (26, true), (27, false), (28, true)] (by kernel_rfl) (by kernel_rfl) (fun _ _ d _ _ h => by cases d <;> exact h) ?_
   refine swith (fun W hW => (cells4 (HL.out.next (hb.drew.trans (hW.out.mono hb.size))).box)) (fun q => ?_)
   repeat (first | (refine sreadx rfl rfl ?_; apply Exists.intro; apply And.intro; (· (intro W hW; go_simp; try (first | with_reducible rfl | (rw [if_neg (by omega)]; try with_reducible rfl)))); simp only [Act.put, List.setIfInBounds_toArray, List.set_cons_zero, List.set_cons_succ]) | (refine sskip rfl rfl ?_; simp only [Act.put, List.setIfInBounds_toArray, List.set_cons_zero, List.set_cons_succ]))
   refine sdone ?_
   clear q hwr
   go_wp2_with fail
   go_ret
   have he : runLen blankC (s.drop i) = k := by
    have h1 := H.out
    rw [List.take_of_length_le (by simp; omega)] at h1
    rw [run_all h1]; simp; omega
   exact ⟨by rw [he]; rfl, hb.drew⟩
theorem run_note (g : Nat) (s : List UInt8) (i : Nat) (w : World) (h : Lx w g s i) : Calls Tryz.prog 79 #[.pointer (some ⟨g, 0, none⟩), .func (.func 81) #[] #[]] w fun e w' => e = .returned (.int .i64 (runLen noteC (s.drop i) : Int)) ∧ Below w.heap.size w w' := by
 have hi := h.i
 have hn := h.n
 have HL := Lib.hid h
 have hsz : (ByteArray.mk s.toArray).size = s.length := by simp [ByteArray.size]
 clear h
 go_enter Tryz.func79, Tryz.ntmps79
 go_wp2_with fail
 go_loopw [4] (fun v wr => ∃ k : Nat, i + k ≤ s.length ∧ v = .int .i64 k ∧ Hid (((s.drop i).take k).all noteC = true) ∧ Below w.heap.size w wr) (fun v _ => s.length - (intOf v).toNat)
 case atStart => exact ⟨0, by omega, rfl, Lib.hid (by simp), Below.refl _ _⟩
 case round =>
  obtain ⟨k, hk, rfl, H, hb⟩ := hrel
  obtain ⟨m, hm⟩ : ∃ m, i + k = m := ⟨_, rfl⟩
  have hwr : IntKind.i64.wrap ((i : Int) + (k : Int)) = (m : Int) := by rw [IntWalk.i64_in _ (by omega)]; omega
  by_cases hlt : m < s.length
  ·have hlt' : k < (s.drop i).length := by simp; omega
   have hst := Lib.hid (all_snoc (p := noteC) hlt' H.out)
   have hno := Lib.hid (run_step (p := noteC) hlt' H.out)
   generalize hc : (s.drop i)[k] = c at hst hno
   rw [List.getElem_drop] at hc
   have hx := ba_at s m hlt (by simpa only [hm] using hc)
   have d1 : decide ((m : Int) < (s.length : Int)) = true := by simp; omega
   have d2 : decide (m < s.length) = true := by simp; omega
   have hm1 : i + k ≤ m ∧ m ≤ i + k := by omega
   clear hm hc
   go_wp2_with fail
   refine wp_region_sched [(0, true), (1, true), (2, true), (3, true), (4, true), (5, true), (6, true), (7, true), (8, true), (9, true), (10, true), (11, true), (12, true), (13, true), (14, true), (15, true), (16, true), (17, true), (18, true), (19, true), (20, true), (21, true), (22, true), (23, true), (24, true), (25, true), (26, true), (27, false), (28, true)] (by kernel_rfl) (by kernel_rfl) (fun _ _ d _ _ h => by cases d <;> exact h) ?_
   refine swith (fun W hW => (cells4 (HL.out.next (hb.drew.trans (hW.out.mono hb.size))).box)) (fun q => ?_)
   repeat (first | (refine sreadx rfl rfl ?_; apply Exists.intro; apply And.intro; (· (intro W hW; go_simp; try (first | with_reducible rfl | (rw [if_neg (by omega)]; try with_reducible rfl)))); simp only [Act.put, List.setIfInBounds_toArray, List.set_cons_zero, List.set_cons_succ]) | (refine sskip rfl rfl ?_; simp only [Act.put, List.setIfInBounds_toArray, List.set_cons_zero, List.set_cons_succ]))
   refine scall rfl rfl (fun K hK => ?_)
   go_simp
   refine (lnote_any c _).mono ?_; rintro e w2 ⟨rfl, rfl⟩
   go_wp2_with fail
   refine hK.out _ _ (by exact Grow.refl _) ?_
   clear hK K
   try simp only [Act.put, List.setIfInBounds_toArray, List.set_cons_zero, List.set_cons_succ]
   cases hp : noteC c
   ·have hno' := Lib.hid (hno.out.trans (if_neg (by simp [hp])))
    repeat (first | (refine sreadx rfl rfl ?_; apply Exists.intro; apply And.intro; (· (intro W hW; go_simp; try (first | with_reducible rfl | (rw [if_neg (by omega)]; try with_reducible rfl)))); simp only [Act.put, List.setIfInBounds_toArray, List.set_cons_zero, List.set_cons_succ]) | (refine sskip rfl rfl ?_; simp only [Act.put, List.setIfInBounds_toArray, List.set_cons_zero, List.set_cons_succ]))
    refine sdone ?_
    clear q hwr
    go_wp2_with fail
    go_ret
    exact ⟨by rw [hno'.out]; rfl, hb.drew⟩
   ·have hst' := Lib.hid (hst.out hp)
    repeat (first | (refine sreadx rfl rfl ?_; apply Exists.intro; apply And.intro; (· (intro W hW; go_simp; try (first | with_reducible rfl | (rw [if_neg (by omega)]; try with_reducible rfl)))); simp only [Act.put, List.setIfInBounds_toArray, List.set_cons_zero, List.set_cons_succ]) | (refine sskip rfl rfl ?_; simp only [Act.put, List.setIfInBounds_toArray, List.set_cons_zero, List.set_cons_succ]))
    refine sdone ?_
    clear q hwr
    go_wp2_with fail
    go_roundw
    case rel => exact ⟨k + 1, by omega, by go_num, hst', hb.drew⟩
    case measure => simp [intOf]; omega
  ·have d1 : decide ((m : Int) < (s.length : Int)) = false := by simp; omega
   have d2 : decide (m < s.length) = false := by simp; omega
   have hm1 : i + k ≤ m ∧ m ≤ i + k := by omega
   clear hm
   go_wp2_with fail
   refine wp_region_sched [(0, true), (1, true), (2, true), (3, true), (4, true), (5, true), (6, true), (7, true), (8, true), (9, true), (10, true), (11, true), (12, true), (13, true), (14, true), (15, true), (16, true), (17, true), (18, true), (19, true), (20, true), (21, true), (22, true), (23, true), (24, true), (25, true), (26, true), (27, false), (28, true)] (by kernel_rfl) (by kernel_rfl) (fun _ _ d _ _ h => by cases d <;> exact h) ?_
   refine swith (fun W hW => (cells4 (HL.out.next (hb.drew.trans (hW.out.mono hb.size))).box)) (fun q => ?_)
   repeat (first | (refine sreadx rfl rfl ?_; apply Exists.intro; apply And.intro; (· (intro W hW; go_simp; try (first | with_reducible rfl | (rw [if_neg (by omega)]; try with_reducible rfl)))); simp only [Act.put, List.setIfInBounds_toArray, List.set_cons_zero, List.set_cons_succ]) | (refine sskip rfl rfl ?_; simp only [Act.put, List.setIfInBounds_toArray, List.set_cons_zero, List.set_cons_succ]))
   refine sdone ?_
   clear q hwr
   go_wp2_with fail
   go_ret
   have he : runLen noteC (s.drop i) = k := by
    have h1 := H.out
    rw [List.take_of_length_le (by simp; omega)] at h1
    rw [run_all h1]; simp; omega
   exact ⟨by rw [he]; rfl, hb.drew⟩
theorem run_word (g : Nat) (s : List UInt8) (i : Nat) (w : World) (h : Lx w g s i) : Calls Tryz.prog 79 #[.pointer (some ⟨g, 0, none⟩), .func (.func 84) #[] #[]] w fun e w' => e = .returned (.int .i64 (runLen wordC (s.drop i) : Int)) ∧ Below w.heap.size w w' := by
 have hi := h.i
 have hn := h.n
 have HL := Lib.hid h
 have hsz : (ByteArray.mk s.toArray).size = s.length := by simp [ByteArray.size]
 clear h
 go_enter Tryz.func79, Tryz.ntmps79
 go_wp2_with fail
 go_loopw [4] (fun v wr => ∃ k : Nat, i + k ≤ s.length ∧ v = .int .i64 k ∧ Hid (((s.drop i).take k).all wordC = true) ∧ Below w.heap.size w wr) (fun v _ => s.length - (intOf v).toNat)
 case atStart => exact ⟨0, by omega, rfl, Lib.hid (by simp), Below.refl _ _⟩
 case round =>
  obtain ⟨k, hk, rfl, H, hb⟩ := hrel
  obtain ⟨m, hm⟩ : ∃ m, i + k = m := ⟨_, rfl⟩
  have hwr : IntKind.i64.wrap ((i : Int) + (k : Int)) = (m : Int) := by rw [IntWalk.i64_in _ (by omega)]; omega
  by_cases hlt : m < s.length
  ·have hlt' : k < (s.drop i).length := by simp; omega
   have hst := Lib.hid (all_snoc (p := wordC) hlt' H.out)
   have hno := Lib.hid (run_step (p := wordC) hlt' H.out)
   generalize hc : (s.drop i)[k] = c at hst hno
   rw [List.getElem_drop] at hc
   have hx := ba_at s m hlt (by simpa only [hm] using hc)
   have d1 : decide ((m : Int) < (s.length : Int)) = true := by simp; omega
   have d2 : decide (m < s.length) = true := by simp; omega
   have hm1 : i + k ≤ m ∧ m ≤ i + k := by omega
   clear hm hc
   go_wp2_with fail
   refine wp_region_sched [(0, true), (1, true), (2, true), (3, true), (4, true), (5, true), (6, true), (7, true), (8, true), (9, true), (10, true), (11, true), (12, true), (13, true), (14, true), (15, true), (16, true), (17, true), (18, true), (19, true), (20, true), (21, true), (22, true), (23, true), (24, true), (25, true), (26, true), (27, false), (28, true)] (by kernel_rfl) (by kernel_rfl) (fun _ _ d _ _ h => by cases d <;> exact h) ?_
   refine swith (fun W hW => (cells4 (HL.out.next (hb.drew.trans (hW.out.mono hb.size))).box)) (fun q => ?_)
   repeat (first | (refine sreadx rfl rfl ?_; apply Exists.intro; apply And.intro; (· (intro W hW; go_simp; try (first | with_reducible rfl | (rw [if_neg (by omega)]; try with_reducible rfl)))); simp only [Act.put, List.setIfInBounds_toArray, List.set_cons_zero, List.set_cons_succ]) | (refine sskip rfl rfl ?_; simp only [Act.put, List.setIfInBounds_toArray, List.set_cons_zero, List.set_cons_succ]))
   refine scall rfl rfl (fun K hK => ?_)
   go_simp
   refine (lword_any c _).mono ?_; rintro e w2 ⟨rfl, rfl⟩
   go_wp2_with fail
   refine hK.out _ _ (by exact Grow.refl _) ?_
   clear hK K
   try simp only [Act.put, List.setIfInBounds_toArray, List.set_cons_zero, List.set_cons_succ]
   cases hp : wordC c
   ·have hno' := Lib.hid (hno.out.trans (if_neg (by simp [hp])))
    repeat (first | (refine sreadx rfl rfl ?_; apply Exists.intro; apply And.intro; (· (intro W hW; go_simp; try (first | with_reducible rfl | (rw [if_neg (by omega)]; try with_reducible rfl)))); simp only [Act.put, List.setIfInBounds_toArray, List.set_cons_zero, List.set_cons_succ]) | (refine sskip rfl rfl ?_; simp only [Act.put, List.setIfInBounds_toArray, List.set_cons_zero, List.set_cons_succ]))
    refine sdone ?_
    clear q hwr
    go_wp2_with fail
    go_ret
    exact ⟨by rw [hno'.out]; rfl, hb.drew⟩
   ·have hst' := Lib.hid (hst.out hp)
    repeat (first | (refine sreadx rfl rfl ?_; apply Exists.intro; apply And.intro; (· (intro W hW; go_simp; try (first | with_reducible rfl | (rw [if_neg (by omega)]; try with_reducible rfl)))); simp only [Act.put, List.setIfInBounds_toArray, List.set_cons_zero, List.set_cons_succ]) | (refine sskip rfl rfl ?_; simp only [Act.put, List.setIfInBounds_toArray, List.set_cons_zero, List.set_cons_succ]))
    refine sdone ?_
    clear q hwr
    go_wp2_with fail
    go_roundw
    case rel => exact ⟨k + 1, by omega, by go_num, hst', hb.drew⟩
    case measure => simp [intOf]; omega
  ·have d1 : decide ((m : Int) < (s.length : Int)) = false := by simp; omega
   have d2 : decide (m < s.length) = false := by simp; omega
   have hm1 : i + k ≤ m ∧ m ≤ i + k := by omega
   clear hm
   go_wp2_with fail
   refine wp_region_sched [(0, true), (1, true), (2, true), (3, true), (4, true), (5, true), (6, true), (7, true), (8, true), (9, true), (10, true), (11, true), (12, true), (13, true), (14, true), (15, true), (16, true), (17, true), (18, true), (19, true), (20, true), (21, true), (22, true), (23, true), (24, true), (25, true), (26, true), (27, false), (28, true)] (by kernel_rfl) (by kernel_rfl) (fun _ _ d _ _ h => by cases d <;> exact h) ?_
   refine swith (fun W hW => (cells4 (HL.out.next (hb.drew.trans (hW.out.mono hb.size))).box)) (fun q => ?_)
   repeat (first | (refine sreadx rfl rfl ?_; apply Exists.intro; apply And.intro; (· (intro W hW; go_simp; try (first | with_reducible rfl | (rw [if_neg (by omega)]; try with_reducible rfl)))); simp only [Act.put, List.setIfInBounds_toArray, List.set_cons_zero, List.set_cons_succ]) | (refine sskip rfl rfl ?_; simp only [Act.put, List.setIfInBounds_toArray, List.set_cons_zero, List.set_cons_succ]))
   refine sdone ?_
   clear q hwr
   go_wp2_with fail
   go_ret
   have he : runLen wordC (s.drop i) = k := by
    have h1 := H.out
    rw [List.take_of_length_le (by simp; omega)] at h1
    rw [run_all h1]; simp; omega
   exact ⟨by rw [he]; rfl, hb.drew⟩
theorem run_digit (g : Nat) (s : List UInt8) (i : Nat) (w : World) (h : Lx w g s i) : Calls Tryz.prog 79 #[.pointer (some ⟨g, 0, none⟩), .func (.func 85) #[] #[]] w fun e w' => e = .returned (.int .i64 (runLen digitC (s.drop i) : Int)) ∧ Below w.heap.size w w' := by
 have hi := h.i
 have hn := h.n
 have HL := Lib.hid h
 have hsz : (ByteArray.mk s.toArray).size = s.length := by simp [ByteArray.size]
 clear h
 go_enter Tryz.func79, Tryz.ntmps79
 go_wp2_with fail
 go_loopw [4] (fun v wr => ∃ k : Nat, i + k ≤ s.length ∧ v = .int .i64 k ∧ Hid (((s.drop i).take k).all digitC = true) ∧ Below w.heap.size w wr) (fun v _ => s.length - (intOf v).toNat)
 case atStart => exact ⟨0, by omega, rfl, Lib.hid (by simp), Below.refl _ _⟩
 case round =>
  obtain ⟨k, hk, rfl, H, hb⟩ := hrel
  obtain ⟨m, hm⟩ : ∃ m, i + k = m := ⟨_, rfl⟩
  have hwr : IntKind.i64.wrap ((i : Int) + (k : Int)) = (m : Int) := by rw [IntWalk.i64_in _ (by omega)]; omega
  by_cases hlt : m < s.length
  ·have hlt' : k < (s.drop i).length := by simp; omega
   have hst := Lib.hid (all_snoc (p := digitC) hlt' H.out)
   have hno := Lib.hid (run_step (p := digitC) hlt' H.out)
   generalize hc : (s.drop i)[k] = c at hst hno
   rw [List.getElem_drop] at hc
   have hx := ba_at s m hlt (by simpa only [hm] using hc)
   have d1 : decide ((m : Int) < (s.length : Int)) = true := by simp; omega
   have d2 : decide (m < s.length) = true := by simp; omega
   have hm1 : i + k ≤ m ∧ m ≤ i + k := by omega
   clear hm hc
   go_wp2_with fail
   refine wp_region_sched [(0, true), (1, true), (2, true), (3, true), (4, true), (5, true), (6, true), (7, true), (8, true), (9, true), (10, true), (11, true), (12, true), (13, true), (14, true), (15, true), (16, true), (17, true), (18, true), (19, true), (20, true), (21, true), (22, true), (23, true), (24, true), (25, true), (26, true), (27, false), (28, true)] (by kernel_rfl) (by kernel_rfl) (fun _ _ d _ _ h => by cases d <;> exact h) ?_
   refine swith (fun W hW => (cells4 (HL.out.next (hb.drew.trans (hW.out.mono hb.size))).box)) (fun q => ?_)
   repeat (first | (refine sreadx rfl rfl ?_; apply Exists.intro; apply And.intro; (· (intro W hW; go_simp; try (first | with_reducible rfl | (rw [if_neg (by omega)]; try with_reducible rfl)))); simp only [Act.put, List.setIfInBounds_toArray, List.set_cons_zero, List.set_cons_succ]) | (refine sskip rfl rfl ?_; simp only [Act.put, List.setIfInBounds_toArray, List.set_cons_zero, List.set_cons_succ]))
   refine scall rfl rfl (fun K hK => ?_)
   go_simp
   refine (ldigit_any c _).mono ?_; rintro e w2 ⟨rfl, rfl⟩
   go_wp2_with fail
   refine hK.out _ _ (by exact Grow.refl _) ?_
   clear hK K
   try simp only [Act.put, List.setIfInBounds_toArray, List.set_cons_zero, List.set_cons_succ]
   cases hp : digitC c
   ·have hno' := Lib.hid (hno.out.trans (if_neg (by simp [hp])))
    repeat (first | (refine sreadx rfl rfl ?_; apply Exists.intro; apply And.intro; (· (intro W hW; go_simp; try (first | with_reducible rfl | (rw [if_neg (by omega)]; try with_reducible rfl)))); simp only [Act.put, List.setIfInBounds_toArray, List.set_cons_zero, List.set_cons_succ]) | (refine sskip rfl rfl ?_; simp only [Act.put, List.setIfInBounds_toArray, List.set_cons_zero, List.set_cons_succ]))
    refine sdone ?_
    clear q hwr
    go_wp2_with fail
    go_ret
    exact ⟨by rw [hno'.out]; rfl, hb.drew⟩
   ·have hst' := Lib.hid (hst.out hp)
    repeat (first | (refine sreadx rfl rfl ?_; apply Exists.intro; apply And.intro; (· (intro W hW; go_simp; try (first | with_reducible rfl | (rw [if_neg (by omega)]; try with_reducible rfl)))); simp only [Act.put, List.setIfInBounds_toArray, List.set_cons_zero, List.set_cons_succ]) | (refine sskip rfl rfl ?_; simp only [Act.put, List.setIfInBounds_toArray, List.set_cons_zero, List.set_cons_succ]))
    refine sdone ?_
    clear q hwr
    go_wp2_with fail
    go_roundw
    case rel => exact ⟨k + 1, by omega, by go_num, hst', hb.drew⟩
    case measure => simp [intOf]; omega
  ·have d1 : decide ((m : Int) < (s.length : Int)) = false := by simp; omega
   have d2 : decide (m < s.length) = false := by simp; omega
   have hm1 : i + k ≤ m ∧ m ≤ i + k := by omega
   clear hm
   go_wp2_with fail
   refine wp_region_sched [(0, true), (1, true), (2, true), (3, true), (4, true), (5, true), (6, true), (7, true), (8, true), (9, true), (10, true), (11, true), (12, true), (13, true), (14, true), (15, true), (16, true), (17, true), (18, true), (19, true), (20, true), (21, true), (22, true), (23, true), (24, true), (25, true), (26, true), (27, false), (28, true)] (by kernel_rfl) (by kernel_rfl) (fun _ _ d _ _ h => by cases d <;> exact h) ?_
   refine swith (fun W hW => (cells4 (HL.out.next (hb.drew.trans (hW.out.mono hb.size))).box)) (fun q => ?_)
   repeat (first | (refine sreadx rfl rfl ?_; apply Exists.intro; apply And.intro; (· (intro W hW; go_simp; try (first | with_reducible rfl | (rw [if_neg (by omega)]; try with_reducible rfl)))); simp only [Act.put, List.setIfInBounds_toArray, List.set_cons_zero, List.set_cons_succ]) | (refine sskip rfl rfl ?_; simp only [Act.put, List.setIfInBounds_toArray, List.set_cons_zero, List.set_cons_succ]))
   refine sdone ?_
   clear q hwr
   go_wp2_with fail
   go_ret
   have he : runLen digitC (s.drop i) = k := by
    have h1 := H.out
    rw [List.take_of_length_le (by simp; omega)] at h1
    rw [run_all h1]; simp; omega
   exact ⟨by rw [he]; rfl, hb.drew⟩
end Go.Proofs.YtnbmpfdffoidaaaGreatDoor.X
