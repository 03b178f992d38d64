/- Texts of the proof, joined: SynPut, SynWds, SynLit. -/
import Derived.Test.YtnbmpfdffoidaaaGreatSp08
import Derived.Test.YtnbmpfdffoidaaaGreatSp10
set_option linter.unusedVariables false
set_option linter.unusedSimpArgs false
set_option maxHeartbeats 8000000
set_option maxRecDepth 100000
namespace Go.Proofs.YtnbmpfdffoidaaaGreat.Y
open Go.RowKit O V S X
structure PF (g : Nat) (w w' : World) : Prop where
 os : w'.os = w.os
 tape : w'.tape = w.tape
 output : w'.output = w.output
 size : w.heap.size ≤ w'.heap.size
 low : ∀ k, k < g → k < w.heap.size → w'.heap[k]? = w.heap[k]?
 box : ∀ k vs T d, g < k → w.heap[k]? = some (.cells vs T d) → T ≠ 9 → w'.heap[k]? = w.heap[k]?
theorem PF.refl (g : Nat) (w : World) : PF g w w := ⟨rfl, rfl, rfl, Nat.le_refl _, fun _ _ _ => rfl, fun _ _ _ _ _ _ _ => rfl⟩
theorem PF.trans {g : Nat} {a b c : World} (h : PF g a b) (k : PF g b c) : PF g a c :=
 ⟨k.os.trans h.os, k.tape.trans h.tape, k.output.trans h.output, Nat.le_trans h.size k.size, fun i hi hs => (k.low i hi (Nat.lt_of_lt_of_le hs h.size)).trans (h.low i hi hs),
  fun i vs T d hi hb hT => (k.box i vs T d hi ((h.box i vs T d hi hb hT).trans hb) hT).trans (h.box i vs T d hi hb hT)⟩
theorem PF.of_below {g : Nat} {a b : World} (h : Below a.heap.size a b) : PF g a b :=
 ⟨h.os, h.tape, h.output, h.size, fun i _ hs => h.block i hs, fun i vs T d _ hb _ => h.block i (Array.getElem?_eq_some_iff.1 hb).1⟩
theorem PF.then {g : Nat} {a b c : World} (h : PF g a b) (k : Below b.heap.size b c) : PF g a c := h.trans (.of_below k)
theorem PF.below {g : Nat} {a b : World} (h : PF g a b) (hg : g ≤ a.heap.size) : Below g a b := ⟨h.os, h.tape, h.output, h.size, fun k hk => h.low k hk (by omega)⟩
theorem PF.keep {g k : Nat} {a b : World} {vs : Array Value} {T : TypeId} {d : Nat × Nat} (h : PF g a b) (hk : g < k) (hb : a.heap[k]? = some (.cells vs T d)) (hT : T ≠ 9) : b.heap[k]? = some (.cells vs T d) := (h.box k vs T d hk hb hT).trans hb
def Pr (w : World) (g : Nat) (L : List (List UInt8)) : Prop := ∃ A n c, w.heap[g]? = some (.cells #[.slice A n c] 80 (0, 0)) ∧ w.ownsRow (g + 1) 9 1 (.slice A n c) n (L.map sv)
theorem Pr.lt {w : World} {g : Nat} {L : List (List UInt8)} (h : Pr w g L) : g < w.heap.size := by
 obtain ⟨A, n, c, hb, _⟩ := h
 exact (Array.getElem?_eq_some_iff.1 hb).1
theorem Pr.next {w w' : World} {g : Nat} {L : List (List UInt8)} (h : Pr w g L) (b : Below w.heap.size w w') : Pr w' g L := by
 have hlt := h.lt
 obtain ⟨A, n, c, hb, ho⟩ := h
 refine ⟨A, n, c, box_next hb b, ho.1, ?_⟩
 rcases ho.2 with hh | ⟨k, cap, cur, hv, h1, h2, h3⟩
 ·exact .inl hh
 ·exact .inr ⟨k, cap, cur, hv, h1, box_next h2 b, h3⟩
theorem own_mod' {w w' : World} {base size n : Nat} {e : TypeId} {v : Value} {xs : List Value} (h : w.ownsRow base e size v n xs) (hk : ∀ k, v.ownBlock = some k → w'.heap[k]? = w.heap[k]?) : w'.ownsRow base e size v n xs := by
 refine ⟨h.1, ?_⟩
 rcases h.2 with hh | ⟨k, cap, cur, hv, h1, h2, h3⟩
 ·exact .inl hh
 ·exact .inr ⟨k, cap, cur, hv, h1, (hk k (by rw [hv]; rfl)).trans h2, h3⟩
theorem sv_len (l : List (List UInt8)) : ∀ u ∈ l.map sv, u.oneCell' = true := by
 intro u hu
 obtain ⟨s, _, rfl⟩ := List.mem_map.1 hu
 rfl
theorem put_any (g : Nat) (B : Option Addr) (m c' : Nat) (news L : List (List UInt8)) (w : World) {lim : Nat} (h : Pr w g L) (hr : Rd w lim 1 B m (news.map sv)) (hlim : L.length + news.length ≤ 1000000000) :
  Calls Tryz.prog 44 #[.pointer (some ⟨g, 0, none⟩), .slice B m c'] w fun e w' => e = .returned (.tuple #[]) ∧ Pr w' g (L ++ news) ∧ PF g w w' := by
 have hlt := h.lt
 obtain ⟨A, n, c, hb, ho⟩ := h
 have hn : L.length = n := by have := ho.1; simp at this; omega
 have hm : news.length = m := by have := hr.1; simp at this; omega
 have x0 : w.cell? ⟨g, 0, none⟩ = some (.slice A n c) := by rw [Lib.cell_of_heap hb]; rfl
 have HO := Lib.hid ho
 have HR := Lib.hid hr
 have HB := Lib.hid hb
 clear ho hr hb
 go_enter Tryz.func44, Tryz.ntmps44
 go_wp2_with (at_builtin; refine wpList_app rfl (.tmp 8) (.tmp 9) strE rfl (g + 1) (L.map sv) rfl HO.out rfl (news.map sv) HR.out (sv_len news) (by unfold maxLen; omega) (by omega) (by omega) ?_; intro A2 c2 w2 o2 g2 k2; have B2 : w2.heap[g]? = some (.cells #[.slice A n c] 80 (0, 0)) := (g2.block g hlt (fun e => by have := (HO.out.lt g e.symm).1; omega)).trans HB.out; have xf2 : w2.frozen? ⟨g, 0, none⟩ = false := Lib.frozen_of_heap B2 0; have x2 : w2.cell? ⟨g, 0, none⟩ = some (.slice A n c) := by rw [Lib.cell_of_heap B2]; rfl)
 go_end0
 rw [← List.map_append] at o2
 have hgo : ∀ k, (Value.slice A2 (n + m) c2).ownBlock = some k → g + 1 ≤ k := fun k hk => (o2.lt k hk).1
 refine ⟨rfl, ⟨A2, n + m, c2, ?_, ?_⟩, ?_⟩
 ·have := heap_set (i := 0) B2 (.slice A2 (n + m) c2)
  exact this
 ·exact own_mod' o2 (fun k hk => Below.heap_setCell _ _ _ _ (by have := hgo k hk; simp only; omega))
 ·refine ⟨g2.os, g2.tape, g2.output, by simpa using g2.size, fun k hk hs => ?_, fun k vs T d hk hbk hT => ?_⟩
  ·rw [Below.heap_setCell _ _ _ _ (by simp only; omega)]
   exact g2.block k hs (fun e => by have := (HO.out.lt k e.symm).1; omega)
  ·rw [Below.heap_setCell _ _ _ _ (by simp only; omega)]
   refine g2.block k (Array.getElem?_eq_some_iff.1 hbk).1 (fun e => ?_)
   rcases HO.out.2 with ⟨hv, _⟩ | ⟨k', cap, cur, hv, h1, h2, h3⟩
   ·rw [hv] at e; cases e
   ·rw [hv] at e
    injection e with e
    subst e
    rw [h2] at hbk
    injection hbk with hbk
    injection hbk with _ e2 _
    exact hT e2.symm
def sgL : List (List UInt8) := [[124, 124], [38, 38], [61, 61], [33, 61], [60], [60, 61], [43], [45], [43, 43], [42], [47], [37]]
theorem sg_bin {k : Nat} (h : k < sgL.length) : binS sgL[k] = (k + 1, lvlS (k + 1)) ∧ signS (k + 1) = sgL[k] := by
 have h' : k < 12 := h
 have hk : k = 0 ∨ k = 1 ∨ k = 2 ∨ k = 3 ∨ k = 4 ∨ k = 5 ∨ k = 6 ∨ k = 7 ∨ k = 8 ∨ k = 9 ∨ k = 10 ∨ k = 11 := by omega
 rcases hk with rfl | rfl | rfl | rfl | rfl | rfl | rfl | rfl | rfl | rfl | rfl | rfl <;> exact ⟨rfl, rfl⟩
theorem sign_any (op : Nat) (hop : 1 ≤ op ∧ op ≤ 12) (w : World) : Calls Tryz.prog 49 #[nv op] w fun e w' => e = .returned (.tuple #[sv (signS op), nv (lvlS op)]) ∧ Below w.heap.size w w' := by
 have HOP := Lib.hid hop
 clear hop
 go_enter Tryz.func49, Tryz.ntmps49
 go_wp2_with fail
 obtain ⟨w1, hw⟩ : ∃ W, w.alloc (.cells #[.string ⟨#[124, 124]⟩, .string ⟨#[38, 38]⟩, .string ⟨#[61, 61]⟩, .string ⟨#[33, 61]⟩, .string ⟨#[60]⟩, .string ⟨#[60, 61]⟩, .string ⟨#[43]⟩, .string ⟨#[45]⟩, .string ⟨#[43, 43]⟩, .string ⟨#[42]⟩, .string ⟨#[47]⟩, .string ⟨#[37]⟩] 9) = W := ⟨_, rfl⟩
 have hb1 : Below w.heap.size w w1 := by rw [← hw]; exact (Below.refl _ _).alloc (Nat.le_refl _) _
 have hs1 : w.heap.size < w1.heap.size := by rw [← hw]; simp
 have hc : ∀ k, (h : k < sgL.length) → w1.cell? ⟨w.heap.size, k, none⟩ = some (sv sgL[k]) := fun k h => by
  have h' : k < 12 := h
  have hk : k = 0 ∨ k = 1 ∨ k = 2 ∨ k = 3 ∨ k = 4 ∨ k = 5 ∨ k = 6 ∨ k = 7 ∨ k = 8 ∨ k = 9 ∨ k = 10 ∨ k = 11 := by omega
  rw [← hw]
  rcases hk with rfl | rfl | rfl | rfl | rfl | rfl | rfl | rfl | rfl | rfl | rfl | rfl <;> (rw [Lib.cell_of_heap (alloc_at rfl)]; rfl)
 rw [hw]
 have HC := Lib.hid hc
 clear hc hw
 go_loopw [2, 3, 10] (fun u v i wr => ∃ k : Nat, k < op ∧ i = .int .i64 k ∧ wr = w1) (fun _ _ i _ => 12 - (intOf i).toNat)
 case atStart => exact ⟨0, by have := HOP.out; omega, rfl, rfl⟩
 case round =>
  obtain ⟨k, hk, rfl, rfl⟩ := hrel
  have hop := HOP.out
  have hk12 : k < sgL.length := by show k < 12; omega
  have x0 := HC.out k hk12
  obtain ⟨e1, e2⟩ := sg_bin hk12
  have hlt : (k : Int) < 12 := by omega
  have HE1 := Lib.hid e1
  have HE2 := Lib.hid e2
  clear e1 e2
  generalize sgL[k] = s at *
  clear hop
  go_wp2_with fail
  refine (binary_any s _).mono ?_; rintro e w3 ⟨rfl, rfl⟩
  rw [HE1.out]
  simp only
  by_cases hf : k + 1 = op
  ·have hd : decide (((k + 1 : Nat) : Int) = (op : Int)) = true := by simp; omega
   go_wp2_with fail
   go_ret2
   refine ⟨?_, hb1⟩
   rw [← hf, HE2.out]
   rfl
  ·have hd : decide (((k + 1 : Nat) : Int) = (op : Int)) = false := by simp; omega
   go_wp2_with fail
   go_roundw
   case rel => exact ⟨k + 1, by omega, by go_num, trivial⟩
   case measure => simp [intOf]; omega
abbrev exVal (k vk vn : Int) (vs n c : List UInt8) (o : Int) (a : Value) (p q r : Int) : Value := .agg #[nv k, nv vk, nv vn, sv vs, sv n, sv c, nv o, a, nv p, nv q, nv r]
abbrev exO (k vk vn : Int) (vs n c : List UInt8) (o : Int) (a : Value) (p q r : Int) : Obj := .cells #[nv k, nv vk, nv vn, sv vs, sv n, sv c, nv o, a, nv p, nv q, nv r] 43
section
variable (vk vn : Int) (vs n c : List UInt8) (a : Value) (p q r : Int)
theorem level_bin (op : Nat) (hop : 1 ≤ op ∧ op ≤ 12) (w : World) : Calls Tryz.prog 43 #[exVal 8 vk vn vs n c op a p q r] w fun e w' => e = .returned (nv (lvlS op)) ∧ Below w.heap.size w w' := by
 go_enter Tryz.func43, Tryz.ntmps43
 go_wp2_with fail
 refine (sign_any op hop _).mono ?_; rintro e w2 ⟨rfl, b2⟩
 go_wp2_with fail
 go_ret
 refine ⟨rfl, bthen ?_ b2⟩
 repeat (first | (with_reducible exact Below.refl _ _) | (with_reducible assumption) | refine Below.setCell ?_ (by simp <;> omega) _ | refine Below.alloc ?_ (by simp <;> omega) _ | refine Below.drew ?_)
theorem level_un (op : Int) (w : World) : Calls Tryz.prog 43 #[exVal 7 vk vn vs n c op a p q r] w fun e w' => e = .returned (nv 6) ∧ Below w.heap.size w w' := by
 go_enter Tryz.func43, Tryz.ntmps43
 go_wp2_with fail
 go_ret
 refine ⟨rfl, ?_⟩
 repeat (first | (with_reducible exact Below.refl _ _) | (with_reducible assumption) | refine Below.setCell ?_ (by simp <;> omega) _ | refine Below.alloc ?_ (by simp <;> omega) _ | refine Below.drew ?_)
theorem level_leaf (k op : Int) (h7 : k ≠ 7) (h8 : k ≠ 8) (w : World) : Calls Tryz.prog 43 #[exVal k vk vn vs n c op a p q r] w fun e w' => e = .returned (nv 7) ∧ Below w.heap.size w w' := by
 have d8 : decide (k = 8) = false := by simp [h8]
 have d7 : decide (k = 7) = false := by simp [h7]
 go_enter Tryz.func43, Tryz.ntmps43
 go_wp2_with fail
 go_ret
 refine ⟨rfl, ?_⟩
 repeat (first | (with_reducible exact Below.refl _ _) | (with_reducible assumption) | refine Below.setCell ?_ (by simp <;> omega) _ | refine Below.alloc ?_ (by simp <;> omega) _ | refine Below.drew ?_)
end
theorem level_any (x : Ex) (hx : okX x) (a : Value) (p q r : Int) (w : World) : Calls Tryz.prog 43 #[exVal (hdK x) (hdV x).k (hdV x).n (hdV x).s (hdN x) (hdC x) (hdO x : Nat) a p q r] w fun e w' => e = .returned (nv (lvlX x : Nat)) ∧ Below w.heap.size w w' := by
 cases x with
 | bin op x y => exact level_bin _ _ _ _ _ _ _ _ _ op hx.1 w
 | un op x => exact level_un _ _ _ _ _ _ _ _ _ _ w
 | _ => exact level_leaf _ _ _ _ _ _ _ _ _ _ _ (by simp [hdK]) (by simp [hdK]) w
end Go.Proofs.YtnbmpfdffoidaaaGreat.Y
namespace Go.Proofs.YtnbmpfdffoidaaaGreat.Y
open Go.RowKit O V S X
def seg (s : List UInt8) (f i : Nat) : List UInt8 := (s.drop f).take (i - f)
theorem seg_self (s : List UInt8) (i : Nat) : seg s i i = [] := by simp [seg]
theorem seg_all {s : List UInt8} {f i : Nat} (h : s.length ≤ i) : seg s f i = s.drop f := by
 unfold seg
 rw [List.take_of_length_le (by simp; omega)]
theorem seg_more {s : List UInt8} {f i : Nat} (h : f ≤ i) (n : Nat) : seg s f (i + n) = seg s f i ++ (s.drop i).take n := by
 unfold seg
 rw [show i + n - f = (i - f) + n by omega, List.take_add, List.drop_drop, show f + (i - f) = i by omega]
section
variable {s : List UInt8} {f i : Nat} (hi : i < s.length) (hf : f ≤ i)
include hi hf
theorem wd_esc (h : (s[i]).toNat = 92) : wrd (s.drop i) true (seg s f i) = wrd (s.drop (i + 2)) true (seg s f (i + 2)) := by
 rw [seg_more hf, List.drop_eq_getElem_cons hi, wrd_esc h, List.drop_drop]
 rfl
theorem wd_go {q : Bool} (h1 : ¬ (q = true ∧ (s[i]).toNat = 92)) (h2 : ¬ ((s[i]).toNat = 32 ∧ tgl s[i] q = false)) : wrd (s.drop i) q (seg s f i) = wrd (s.drop (i + 1)) (tgl s[i] q) (seg s f (i + 1)) := by
 rw [seg_more hf, List.drop_eq_getElem_cons hi, wrd_go h1 h2]
 rfl
omit hf in
theorem wd_cut {q : Bool} (h : (s[i]).toNat = 32) (hq : tgl s[i] q = false) : wrd (s.drop i) q (seg s f i) = seg s f i :: wrd (s.drop (i + 1)) (tgl s[i] q) (seg s (i + 1) (i + 1)) := by
 rw [List.drop_eq_getElem_cons hi, wrd_cut h hq, seg_self]
end
theorem words_any (s : List UInt8) (w : World) (hs : s.length ≤ 1000000000) : Calls Tryz.prog 7 #[sv s] w fun e w' => (∃ A n c, e = .returned (.slice A n c) ∧ w'.ownsRow w.heap.size 9 1 (.slice A n c) n ((wrd s false []).map sv)) ∧ Below w.heap.size w w' := by
 have hsz : (ByteArray.mk s.toArray).size = s.length := by simp [ByteArray.size]
 go_enter Tryz.func7, Tryz.ntmps7
 go_wp2_with fail
 go_loopw [3, 4, 5, 6] (fun ov fv qv iv wr => ∃ (i F n : Nat) (q : Bool) (A : Option Addr) (c : Nat) (L : List (List UInt8)), (i ≤ s.length + 1 ∧ F ≤ s.length ∧ F ≤ i ∧ n ≤ i) ∧ iv = .int .i64 (i : Int) ∧ fv = .int .i64 (F : Int) ∧ qv = .bool q ∧ ov = .slice A n c ∧ Hid (wr.ownsRow w.heap.size 9 1 (.slice A n c) n (L.map sv)) ∧ Hid (Below w.heap.size w wr) ∧ Hid (L ++ wrd (s.drop i) q (seg s F i) = wrd s false [])) (fun _ _ _ iv _ => s.length + 2 - (intOf iv).toNat)
 case atStart => exact ⟨0, 0, 0, false, none, 0, [], ⟨by omega, by omega, by omega, by omega⟩, rfl, rfl, rfl, rfl, Lib.hid (World.ownsRow_nil _ _ _ _), Lib.hid (Below.refl _ _), Lib.hid rfl⟩
 case round =>
  obtain ⟨i, F, n, q, A, c, L, ⟨hi, hFs, hFi, hni⟩, rfl, rfl, rfl, rfl, HOW, HB, HC⟩ := hrel
  by_cases hlt : i < s.length
  ·have hki : (i : Int) < (s.length : Int) := by omega
   obtain ⟨b, hb⟩ : ∃ b, s[i] = b := ⟨_, rfl⟩
   have hx := ba_at s i hlt hb
   have W1 := Lib.hid (wd_esc hlt hFi)
   have W2 := Lib.hid (fun q => wd_go (q := q) hlt hFi)
   have W3 := Lib.hid (fun q => wd_cut (f := F) (q := q) hlt)
   rw [hb] at W1 W2 W3
   clear hb
   cases q with
   | true =>
    by_cases h92 : b.toNat = 92
    ·have e92 : ((b.toNat : Int) == 92) = true := by simp; omega
     have hst := Lib.hid (W1.out h92)
     clear W1 W2 W3
     go_wp2_with fail
     go_roundw
     case rel => exact ⟨i + 2, F, n, true, A, c, L, ⟨by omega, by omega, by omega, by omega⟩, by go_num, rfl, rfl, rfl, HOW, HB, Lib.hid (by rw [← HC.out, hst.out])⟩
     case measure => simp [intOf]; omega
    ·have e92 : ((b.toNat : Int) == 92) = false := by simp; omega
     by_cases h34 : b.toNat = 34
     ·have e34 : ((b.toNat : Int) == 34) = true := by simp; omega
      have e32 : ((b.toNat : Int) == 32) = false := by simp; omega
      have hst := Lib.hid (W2.out true (by omega) (by omega))
      rw [show tgl b true = false by unfold tgl; rw [if_pos h34]; rfl] at hst
      clear W1 W2 W3 h34 h92
      go_wp2_with fail
      go_roundw
      case rel => exact ⟨i + 1, F, n, false, A, c, L, ⟨by omega, by omega, by omega, by omega⟩, by go_num, rfl, rfl, rfl, HOW, HB, Lib.hid (by rw [← HC.out, hst.out])⟩
      case measure => simp [intOf]; omega
     ·have e34 : ((b.toNat : Int) == 34) = false := by simp; omega
      have ht : tgl b true = true := by unfold tgl; rw [if_neg h34]
      have hst := Lib.hid (W2.out true (by omega) (by rw [ht]; simp))
      rw [ht] at hst
      clear W1 W2 W3 ht
      by_cases h32 : b.toNat = 32
      ·have e32 : ((b.toNat : Int) == 32) = true := by simp; omega
       clear h32 h34 h92
       go_wp2_with fail
       go_roundw
       case rel => exact ⟨i + 1, F, n, true, A, c, L, ⟨by omega, by omega, by omega, by omega⟩, by go_num, rfl, rfl, rfl, HOW, HB, Lib.hid (by rw [← HC.out, hst.out])⟩
       case measure => simp [intOf]; omega
      ·have e32 : ((b.toNat : Int) == 32) = false := by simp; omega
       clear h32 h34 h92
       go_wp2_with fail
       go_roundw
       case rel => exact ⟨i + 1, F, n, true, A, c, L, ⟨by omega, by omega, by omega, by omega⟩, by go_num, rfl, rfl, rfl, HOW, HB, Lib.hid (by rw [← HC.out, hst.out])⟩
       case measure => simp [intOf]; omega
   | false =>
    by_cases h34 : b.toNat = 34
    ·have e34 : ((b.toNat : Int) == 34) = true := by simp; omega
     have e32 : ((b.toNat : Int) == 32) = false := by simp; omega
     have hst := Lib.hid (W2.out false (by simp) (by omega))
     rw [show tgl b false = true by unfold tgl; rw [if_pos h34]; rfl] at hst
     clear W1 W2 W3 h34
     go_wp2_with fail
     go_roundw
     case rel => exact ⟨i + 1, F, n, true, A, c, L, ⟨by omega, by omega, by omega, by omega⟩, by go_num, rfl, rfl, rfl, HOW, HB, Lib.hid (by rw [← HC.out, hst.out])⟩
     case measure => simp [intOf]; omega
    ·have e34 : ((b.toNat : Int) == 34) = false := by simp; omega
     have ht : tgl b false = false := by unfold tgl; rw [if_neg h34]
     by_cases h32 : b.toNat = 32
     ·have e32 : ((b.toNat : Int) == 32) = true := by simp; omega
      have hst := Lib.hid (W3.out false h32 ht)
      rw [ht] at hst
      have hcut := cut_at s F (i - F) i (by omega)
      change _ = ByteArray.mk (seg s F i).toArray at hcut
      have i1 : (F : Int) ≤ (i : Int) := by omega
      have i2 : (i : Int) ≤ (s.length : Int) := by omega
      have hbs := HB.out.size
      have hll : (L.map sv).length = n := by have := HOW.out.1; omega
      generalize seg s F i = x at hcut hst HC
      clear W1 W2 W3 ht h34 h32
      go_wp2_with (at_builtin; refine wpList_app rfl (.tmp 36) (.tmp 41) strE rfl w.heap.size (L.map sv) rfl (HOW.out.alloc _) rfl [sv x] (Rd.made _ [sv x] rfl (by simp)) (by simp [Value.oneCell']) (by unfold maxLen; omega) (by omega) (by simp; omega) ?_; intro A3 c3 w3 o3 g3 _)
      rw [show List.map sv L ++ [sv x] = List.map sv (L ++ [x]) by rw [List.map_append]; rfl] at o3
      go_roundw
      case rel => exact ⟨i + 1, i + 1, n + 1, false, A3, c3, L ++ [x], ⟨by omega, by omega, by omega, by omega⟩, by go_num, by go_num, rfl, rfl, Lib.hid o3, Lib.hid (below_own (HB.out.alloc hbs _) (HOW.out.alloc _) g3 (Nat.le_refl _)), Lib.hid (by rw [← HC.out, hst.out]; simp)⟩
      case measure => simp [intOf]; omega
     ·have e32 : ((b.toNat : Int) == 32) = false := by simp; omega
      have hst := Lib.hid (W2.out false (by simp) (by omega))
      rw [ht] at hst
      clear W1 W2 W3 ht h34 h32
      go_wp2_with fail
      go_roundw
      case rel => exact ⟨i + 1, F, n, false, A, c, L, ⟨by omega, by omega, by omega, by omega⟩, by go_num, rfl, rfl, rfl, HOW, HB, Lib.hid (by rw [← HC.out, hst.out])⟩
      case measure => simp [intOf]; omega
  ·have hki : ¬ (i : Int) < (s.length : Int) := by omega
   have hseg := seg_all (f := F) (Nat.le_of_not_lt hlt)
   have hC := HC.out
   rw [hseg, List.drop_of_length_le (Nat.le_of_not_lt hlt)] at hC
   have HE : Hid (L ++ [s.drop F] = wrd s false []) := Lib.hid hC
   have hcut := cut_at s F (s.length - F) s.length (by omega)
   rw [List.take_of_length_le (by simp)] at hcut
   have i1 : (F : Int) ≤ (s.length : Int) := by omega
   have hbs := HB.out.size
   have hll : (L.map sv).length = n := by have := HOW.out.1; omega
   clear hseg hC HC
   generalize s.drop F = x at hcut HE
   go_wp2_with (at_builtin; refine wpList_app rfl (.tmp 45) (.tmp 49) strE rfl w.heap.size (L.map sv) rfl (HOW.out.alloc _) rfl [sv x] (Rd.made _ [sv x] rfl (by simp)) (by simp [Value.oneCell']) (by unfold maxLen; omega) (by omega) (by simp; omega) ?_; intro A3 c3 w3 o3 g3 _)
   rw [show List.map sv L ++ [sv x] = List.map sv (L ++ [x]) by rw [List.map_append]; rfl, HE.out] at o3
   go_ret
   exact ⟨⟨A3, n + 1, c3, rfl, o3⟩, below_own (HB.out.alloc hbs _) (HOW.out.alloc _) g3 (Nat.le_refl _)⟩
end Go.Proofs.YtnbmpfdffoidaaaGreat.Y
namespace Go.Proofs.YtnbmpfdffoidaaaGreat.Y
open Go.RowKit O V S X
theorem PsA.next {w w' : World} {g d : Nat} {A : Option Addr} {n c : Nat} {a b e : Int} {l : List Tok} (h : PsA w g A n c a b e d l) (bl : Below w.heap.size w w') : PsA w' g A n c a b e d l :=
 ⟨(bl.block g h.lt).trans h.box, h.row.keep fun k hk => bl.block k (Nat.lt_trans hk h.lt), h.ok, h.txt⟩
def LitR (g d : Nat) (l : List Tok) (w : World) (e : Ending) (w' : World) : Prop :=
 Mod [g] w w' ∧ match pLit l with
 | some v => e = .returned (.tuple #[vv v, .bool true]) ∧ Ps w' g d l.tail
 | none => (∃ a b s, e = .returned (.tuple #[.agg #[nv a, nv b, sv s], .bool false])) ∧ Ps w' g d l
theorem literal_any (g d : Nat) (l : List Tok) (w : World) (h : Ps w g d l) : Calls Tryz.prog 126 #[.pointer (some ⟨g, 0, none⟩)] w (LitR g d l w) := by
 have HS := Lib.hid h
 obtain ⟨A, n, c, ea, eb, ec, hp⟩ := h
 have hlen := hp.row.len
 have hcap := hp.row.cap
 obtain ⟨⟨x0, x4⟩, x1, x2, x3⟩ := hp.cells
 obtain ⟨xf0, xf4⟩ := hp.free
 have hlt := hp.lt
 have HP := Lib.hid hp
 have hne : g ≠ w.heap.size := by omega
 cases l with
 | nil =>
  obtain rfl : n = 0 := by simpa using hlen.symm
  clear hp
  go_enter Tryz.func126, Tryz.ntmps126
  go_wp2_with fail
  refine bodyPost_ret (v := .tuple #[.agg #[nv 0, nv 0, sv []], .bool false]) (by simp [results, Tryz.results126, go_sem]) rfl ?_
  exact ⟨(Mod.refl _ _).alloc _, ⟨_, _, _, rfl⟩, HS.out.alloc _⟩
 | cons t l =>
  obtain ⟨b, off, tp, tq, tr, rfl, hb, ⟨⟨y0, y1⟩, y2, y3, y4⟩, ⟨y5, y6⟩, y7⟩ := hp.row.head
  obtain ⟨tk, tt, tv⟩ := t
  dsimp only at y0 y1 y2 y3 y4
  have hn : 1 ≤ n := by simp at hlen; omega
  have hn0 : n ≠ 0 := by omega
  have hc1 : 1 ≤ c := by omega
  have hcn := hcap.1
  have hbw : b < w.heap.size := by omega
  by_cases h2 : tk = 2
  ·subst h2
   clear hp
   have hR : Hid (pLit ((2, tt, tv) :: l) = some tv) := Lib.hid rfl
   go_enter Tryz.func126, Tryz.ntmps126
   go_wp2_with fail
   go_region
   have hW : Hid (Below w.heap.size w ((((w.alloc (Obj.cells #[Value.int .i64 0, Value.int .i64 0, Value.string ⟨#[]⟩] 40)).alloc (Obj.cells #[nv 2, sv tt, nv tv.k, nv tv.n, sv tv.s, nv tp, nv tq, nv tr] 93)).alloc (Obj.cells #[nv tv.k, nv tv.n, sv tv.s] 40)).drew)) := Lib.hid (by repeat (first | exact Below.refl _ _ | refine Below.drew ?_ | refine Below.alloc ?_ (by simp <;> omega) _))
   have E0 : Hid ((((w.alloc (Obj.cells #[Value.int .i64 0, Value.int .i64 0, Value.string ⟨#[]⟩] 40)).alloc (Obj.cells #[nv 2, sv tt, nv tv.k, nv tv.n, sv tv.s, nv tp, nv tq, nv tr] 93)).alloc (Obj.cells #[nv tv.k, nv tv.n, sv tv.s] 40)).drew.heap[w.heap.size]? = some (.cells #[Value.int .i64 0, Value.int .i64 0, Value.string ⟨#[]⟩] 40 (0, 0))) := Lib.hid (alloc_old' (alloc_old' (alloc_at rfl)))
   have E1 : Hid ((((w.alloc (Obj.cells #[Value.int .i64 0, Value.int .i64 0, Value.string ⟨#[]⟩] 40)).alloc (Obj.cells #[nv 2, sv tt, nv tv.k, nv tv.n, sv tv.s, nv tp, nv tq, nv tr] 93)).alloc (Obj.cells #[nv tv.k, nv tv.n, sv tv.s] 40)).drew.heap[w.heap.size + 1]? = some (.cells #[nv 2, sv tt, nv tv.k, nv tv.n, sv tv.s, nv tp, nv tq, nv tr] 93 (0, 0))) := Lib.hid (alloc_old' (alloc_at (by simp)))
   have E2 : Hid ((((w.alloc (Obj.cells #[Value.int .i64 0, Value.int .i64 0, Value.string ⟨#[]⟩] 40)).alloc (Obj.cells #[nv 2, sv tt, nv tv.k, nv tv.n, sv tv.s, nv tp, nv tq, nv tr] 93)).alloc (Obj.cells #[nv tv.k, nv tv.n, sv tv.s] 40)).drew.heap[w.heap.size + 1 + 1]? = some (.cells #[nv tv.k, nv tv.n, sv tv.s] 40 (0, 0))) := Lib.hid (alloc_at (by simp))
   obtain ⟨W, hWW⟩ : ∃ W, (((w.alloc (Obj.cells #[Value.int .i64 0, Value.int .i64 0, Value.string ⟨#[]⟩] 40)).alloc (Obj.cells #[nv 2, sv tt, nv tv.k, nv tv.n, sv tv.s, nv tp, nv tq, nv tr] 93)).alloc (Obj.cells #[nv tv.k, nv tv.n, sv tv.s] 40)).drew = W := ⟨_, rfl⟩
   rw [hWW] at hW E0 E1 E2 ⊢
   clear hWW
   have x0 : W.cell? ⟨g, 0, none⟩ = some (.slice (some ⟨b, off, none⟩) n c) := by rw [Lib.cell_of_heap ((hW.out.block g hlt).trans HP.out.box)]; rfl
   have xf0 : W.frozen? ⟨g, 0, none⟩ = false := Lib.frozen_of_heap ((hW.out.block g hlt).trans HP.out.box) 0
   have z0 : W.cell? ⟨w.heap.size + 1, 0, none⟩ = some (nv 2) := by rw [Lib.cell_of_heap E1.out]; rfl
   have z1 : W.cell? ⟨w.heap.size + 1, 1, none⟩ = some (sv tt) := by rw [Lib.cell_of_heap E1.out]; rfl
   obtain ⟨v0, v1, v2⟩ := cells3 E2.out
   have vf := fun j => Lib.frozen_of_heap E2.out j
   have vf0 := vf 0
   have vf1 := vf 1
   have vf2 := vf 2
   clear vf
   obtain ⟨r0, r1, r2⟩ := cells3 E0.out
   have rf := fun j => Lib.frozen_of_heap E0.out j
   have rf0 := rf 0
   have rf1 := rf 1
   have rf2 := rf 2
   clear rf
   have hgb : g ≠ w.heap.size + 1 + 1 := by omega
   have hWs : Hid (w.heap.size + 1 + 1 < W.heap.size) := Lib.hid (Array.getElem?_eq_some_iff.1 E2.out).1
   go_wp2_with fail
   ·refine bodyPost_ret (v := .tuple #[vv tv, .bool true]) (by simp [results, Tryz.results126, go_sem, vv, r0, r1, r2, hne, hne.symm]) rfl ?_
    unfold LitR
    rw [hR.out]
    refine ⟨?_, rfl, ?_⟩
    ·repeat (first | (with_reducible exact Mod.of_below hW.out) | refine Mod.set ?_ (.inr (by omega)) _ | refine Mod.set ?_ (.inl (by simp)) _)
    ·repeat (refine Ps.set ?_ (by omega) _)
     refine (HP.out.past ?_ 0 rfl (A' := some ⟨b, off, none⟩) (c' := 0) (fun h => absurd (by assumption) h) rfl (by omega)).2
     repeat (first | (with_reducible exact hW.out) | refine Below.setCell ?_ (by simp only; omega) _)
   ·refine bodyPost_ret (v := .tuple #[vv tv, .bool true]) (by simp [results, Tryz.results126, go_sem, vv, r0, r1, r2, hne, hne.symm]) rfl ?_
    unfold LitR
    rw [hR.out]
    refine ⟨?_, rfl, ?_⟩
    ·repeat (first | (with_reducible exact Mod.of_below hW.out) | refine Mod.set ?_ (.inr (by omega)) _ | refine Mod.set ?_ (.inl (by simp)) _)
    ·repeat (refine Ps.set ?_ (by omega) _)
     refine (HP.out.past ?_ 0 rfl (A' := some ⟨b, off + 8, none⟩) (fun _ => rfl) rfl rfl).2
     repeat (first | (with_reducible exact hW.out) | refine Below.setCell ?_ (by simp only; omega) _)
  ·by_cases h3 : tk = 3
   ·subst h3
    clear hp
    have hR : Hid (pLit ((3, tt, tv) :: l) = some tv) := Lib.hid rfl
    go_enter Tryz.func126, Tryz.ntmps126
    go_wp2_with fail
    go_region
    have hW : Hid (Below w.heap.size w ((((w.alloc (Obj.cells #[Value.int .i64 0, Value.int .i64 0, Value.string ⟨#[]⟩] 40)).alloc (Obj.cells #[nv 3, sv tt, nv tv.k, nv tv.n, sv tv.s, nv tp, nv tq, nv tr] 93)).alloc (Obj.cells #[nv tv.k, nv tv.n, sv tv.s] 40)).drew)) := Lib.hid (by repeat (first | exact Below.refl _ _ | refine Below.drew ?_ | refine Below.alloc ?_ (by simp <;> omega) _))
    have E0 : Hid ((((w.alloc (Obj.cells #[Value.int .i64 0, Value.int .i64 0, Value.string ⟨#[]⟩] 40)).alloc (Obj.cells #[nv 3, sv tt, nv tv.k, nv tv.n, sv tv.s, nv tp, nv tq, nv tr] 93)).alloc (Obj.cells #[nv tv.k, nv tv.n, sv tv.s] 40)).drew.heap[w.heap.size]? = some (.cells #[Value.int .i64 0, Value.int .i64 0, Value.string ⟨#[]⟩] 40 (0, 0))) := Lib.hid (alloc_old' (alloc_old' (alloc_at rfl)))
    have E1 : Hid ((((w.alloc (Obj.cells #[Value.int .i64 0, Value.int .i64 0, Value.string ⟨#[]⟩] 40)).alloc (Obj.cells #[nv 3, sv tt, nv tv.k, nv tv.n, sv tv.s, nv tp, nv tq, nv tr] 93)).alloc (Obj.cells #[nv tv.k, nv tv.n, sv tv.s] 40)).drew.heap[w.heap.size + 1]? = some (.cells #[nv 3, sv tt, nv tv.k, nv tv.n, sv tv.s, nv tp, nv tq, nv tr] 93 (0, 0))) := Lib.hid (alloc_old' (alloc_at (by simp)))
    have E2 : Hid ((((w.alloc (Obj.cells #[Value.int .i64 0, Value.int .i64 0, Value.string ⟨#[]⟩] 40)).alloc (Obj.cells #[nv 3, sv tt, nv tv.k, nv tv.n, sv tv.s, nv tp, nv tq, nv tr] 93)).alloc (Obj.cells #[nv tv.k, nv tv.n, sv tv.s] 40)).drew.heap[w.heap.size + 1 + 1]? = some (.cells #[nv tv.k, nv tv.n, sv tv.s] 40 (0, 0))) := Lib.hid (alloc_at (by simp))
    obtain ⟨W, hWW⟩ : ∃ W, (((w.alloc (Obj.cells #[Value.int .i64 0, Value.int .i64 0, Value.string ⟨#[]⟩] 40)).alloc (Obj.cells #[nv 3, sv tt, nv tv.k, nv tv.n, sv tv.s, nv tp, nv tq, nv tr] 93)).alloc (Obj.cells #[nv tv.k, nv tv.n, sv tv.s] 40)).drew = W := ⟨_, rfl⟩
    rw [hWW] at hW E0 E1 E2 ⊢
    clear hWW
    have x0 : W.cell? ⟨g, 0, none⟩ = some (.slice (some ⟨b, off, none⟩) n c) := by rw [Lib.cell_of_heap ((hW.out.block g hlt).trans HP.out.box)]; rfl
    have xf0 : W.frozen? ⟨g, 0, none⟩ = false := Lib.frozen_of_heap ((hW.out.block g hlt).trans HP.out.box) 0
    have z0 : W.cell? ⟨w.heap.size + 1, 0, none⟩ = some (nv 3) := by rw [Lib.cell_of_heap E1.out]; rfl
    have z1 : W.cell? ⟨w.heap.size + 1, 1, none⟩ = some (sv tt) := by rw [Lib.cell_of_heap E1.out]; rfl
    obtain ⟨v0, v1, v2⟩ := cells3 E2.out
    have vf := fun j => Lib.frozen_of_heap E2.out j
    have vf0 := vf 0
    have vf1 := vf 1
    have vf2 := vf 2
    clear vf
    obtain ⟨r0, r1, r2⟩ := cells3 E0.out
    have rf := fun j => Lib.frozen_of_heap E0.out j
    have rf0 := rf 0
    have rf1 := rf 1
    have rf2 := rf 2
    clear rf
    have hgb : g ≠ w.heap.size + 1 + 1 := by omega
    have hWs : Hid (w.heap.size + 1 + 1 < W.heap.size) := Lib.hid (Array.getElem?_eq_some_iff.1 E2.out).1
    go_wp2_with fail
    ·refine bodyPost_ret (v := .tuple #[vv tv, .bool true]) (by simp [results, Tryz.results126, go_sem, vv, r0, r1, r2, hne, hne.symm]) rfl ?_
     unfold LitR
     rw [hR.out]
     refine ⟨?_, rfl, ?_⟩
     ·repeat (first | (with_reducible exact Mod.of_below hW.out) | refine Mod.set ?_ (.inr (by omega)) _ | refine Mod.set ?_ (.inl (by simp)) _)
     ·repeat (refine Ps.set ?_ (by omega) _)
      refine (HP.out.past ?_ 0 rfl (A' := some ⟨b, off, none⟩) (c' := 0) (fun h => absurd (by assumption) h) rfl (by omega)).2
      repeat (first | (with_reducible exact hW.out) | refine Below.setCell ?_ (by simp only; omega) _)
    ·refine bodyPost_ret (v := .tuple #[vv tv, .bool true]) (by simp [results, Tryz.results126, go_sem, vv, r0, r1, r2, hne, hne.symm]) rfl ?_
     unfold LitR
     rw [hR.out]
     refine ⟨?_, rfl, ?_⟩
     ·repeat (first | (with_reducible exact Mod.of_below hW.out) | refine Mod.set ?_ (.inr (by omega)) _ | refine Mod.set ?_ (.inl (by simp)) _)
     ·repeat (refine Ps.set ?_ (by omega) _)
      refine (HP.out.past ?_ 0 rfl (A' := some ⟨b, off + 8, none⟩) (fun _ => rfl) rfl rfl).2
      repeat (first | (with_reducible exact hW.out) | refine Below.setCell ?_ (by simp only; omega) _)
   ·have e2 : (tk == 2) = false := by simpa using h2
    have e3 : (tk == 3) = false := by simpa using h3
    by_cases h1 : tk = 1
    ·subst h1
     by_cases ht : tt = [116, 114, 117, 101]
     ·subst ht
      clear hp h2 h3
      have hR : Hid (pLit ((1, [116, 114, 117, 101], tv) :: l) = some ⟨2, 1, []⟩) := Lib.hid rfl
      go_enter Tryz.func126, Tryz.ntmps126
      go_wp2_with fail
      go_region
      have hW : Hid (Below w.heap.size w ((((w.alloc (Obj.cells #[Value.int .i64 0, Value.int .i64 0, Value.string ⟨#[]⟩] 40)).alloc (Obj.cells #[nv 1, sv [116, 114, 117, 101], nv tv.k, nv tv.n, sv tv.s, nv tp, nv tq, nv tr] 93)).alloc (Obj.cells #[nv tv.k, nv tv.n, sv tv.s] 40)).drew)) := Lib.hid (by repeat (first | exact Below.refl _ _ | refine Below.drew ?_ | refine Below.alloc ?_ (by simp <;> omega) _))
      have E0 : Hid ((((w.alloc (Obj.cells #[Value.int .i64 0, Value.int .i64 0, Value.string ⟨#[]⟩] 40)).alloc (Obj.cells #[nv 1, sv [116, 114, 117, 101], nv tv.k, nv tv.n, sv tv.s, nv tp, nv tq, nv tr] 93)).alloc (Obj.cells #[nv tv.k, nv tv.n, sv tv.s] 40)).drew.heap[w.heap.size]? = some (.cells #[Value.int .i64 0, Value.int .i64 0, Value.string ⟨#[]⟩] 40 (0, 0))) := Lib.hid (alloc_old' (alloc_old' (alloc_at rfl)))
      have E1 : Hid ((((w.alloc (Obj.cells #[Value.int .i64 0, Value.int .i64 0, Value.string ⟨#[]⟩] 40)).alloc (Obj.cells #[nv 1, sv [116, 114, 117, 101], nv tv.k, nv tv.n, sv tv.s, nv tp, nv tq, nv tr] 93)).alloc (Obj.cells #[nv tv.k, nv tv.n, sv tv.s] 40)).drew.heap[w.heap.size + 1]? = some (.cells #[nv 1, sv [116, 114, 117, 101], nv tv.k, nv tv.n, sv tv.s, nv tp, nv tq, nv tr] 93 (0, 0))) := Lib.hid (alloc_old' (alloc_at (by simp)))
      have E2 : Hid ((((w.alloc (Obj.cells #[Value.int .i64 0, Value.int .i64 0, Value.string ⟨#[]⟩] 40)).alloc (Obj.cells #[nv 1, sv [116, 114, 117, 101], nv tv.k, nv tv.n, sv tv.s, nv tp, nv tq, nv tr] 93)).alloc (Obj.cells #[nv tv.k, nv tv.n, sv tv.s] 40)).drew.heap[w.heap.size + 1 + 1]? = some (.cells #[nv tv.k, nv tv.n, sv tv.s] 40 (0, 0))) := Lib.hid (alloc_at (by simp))
      obtain ⟨W, hWW⟩ : ∃ W, (((w.alloc (Obj.cells #[Value.int .i64 0, Value.int .i64 0, Value.string ⟨#[]⟩] 40)).alloc (Obj.cells #[nv 1, sv [116, 114, 117, 101], nv tv.k, nv tv.n, sv tv.s, nv tp, nv tq, nv tr] 93)).alloc (Obj.cells #[nv tv.k, nv tv.n, sv tv.s] 40)).drew = W := ⟨_, rfl⟩
      rw [hWW] at hW E0 E1 E2 ⊢
      clear hWW
      have x0 : W.cell? ⟨g, 0, none⟩ = some (.slice (some ⟨b, off, none⟩) n c) := by rw [Lib.cell_of_heap ((hW.out.block g hlt).trans HP.out.box)]; rfl
      have xf0 : W.frozen? ⟨g, 0, none⟩ = false := Lib.frozen_of_heap ((hW.out.block g hlt).trans HP.out.box) 0
      have z0 : W.cell? ⟨w.heap.size + 1, 0, none⟩ = some (nv 1) := by rw [Lib.cell_of_heap E1.out]; rfl
      have z1 : W.cell? ⟨w.heap.size + 1, 1, none⟩ = some (sv [116, 114, 117, 101]) := by rw [Lib.cell_of_heap E1.out]; rfl
      obtain ⟨v0, v1, v2⟩ := cells3 E2.out
      have vf := fun j => Lib.frozen_of_heap E2.out j
      have vf0 := vf 0
      have vf1 := vf 1
      have vf2 := vf 2
      clear vf
      obtain ⟨r0, r1, r2⟩ := cells3 E0.out
      have rf := fun j => Lib.frozen_of_heap E0.out j
      have rf0 := rf 0
      have rf1 := rf 1
      have rf2 := rf 2
      clear rf
      have hgb : g ≠ w.heap.size + 1 + 1 := by omega
      have hWs : Hid (w.heap.size + 1 + 1 < W.heap.size) := Lib.hid (Array.getElem?_eq_some_iff.1 E2.out).1
      go_wp2_with fail
      refine (bool_any _ _).mono ?_; rintro e w5 ⟨rfl, b5⟩
      have HB5 := Lib.hid b5
      unfold vv
      have u0 : w5.cell? ⟨g, 0, none⟩ = some (.slice (some ⟨b, off, none⟩) n c) := (b5.cell (p := ⟨g, 0, none⟩) (Nat.lt_of_lt_of_le hlt hW.out.size)).trans x0
      have uf0 : w5.frozen? ⟨g, 0, none⟩ = false := (b5.frozen (p := ⟨g, 0, none⟩) (Nat.lt_of_lt_of_le hlt hW.out.size)).trans xf0
      have E05 := Lib.hid (box_next E0.out b5)
      have E25 := Lib.hid (box_next E2.out b5)
      have hW5 := Lib.hid (bthen hW.out b5)
      clear b5 x0 xf0 z0 z1 v0 v1 v2 vf0 vf1 vf2 r0 r1 r2 rf0 rf1 rf2 E0 E1 E2 hW hWs HB5
      obtain ⟨r0, r1, r2⟩ := cells3 E05.out
      have rf := fun j => Lib.frozen_of_heap E05.out j
      have rf0 := rf 0
      have rf1 := rf 1
      have rf2 := rf 2
      clear rf
      obtain ⟨v0, v1, v2⟩ := cells3 E25.out
      have vf := fun j => Lib.frozen_of_heap E25.out j
      have vf0 := vf 0
      have vf1 := vf 1
      have vf2 := vf 2
      clear vf
      have hW := hW5
      clear hW5
      clear W
      generalize w5 = W at *
      go_wp2_with fail
      ·refine bodyPost_ret (v := .tuple #[vv (⟨2, 1, []⟩ : Val), .bool true]) (by simp [results, Tryz.results126, go_sem, vv, r0, r1, r2, hne, hne.symm]) rfl ?_
       unfold LitR
       rw [hR.out]
       refine ⟨?_, rfl, ?_⟩
       ·repeat (first | (with_reducible exact Mod.of_below hW.out) | refine Mod.set ?_ (.inr (by omega)) _ | refine Mod.set ?_ (.inl (by simp)) _)
       ·repeat (refine Ps.set ?_ (by omega) _)
        refine (HP.out.past ?_ 0 rfl (A' := some ⟨b, off, none⟩) (c' := 0) (fun h => absurd (by assumption) h) rfl (by omega)).2
        repeat (first | (with_reducible exact hW.out) | refine Below.setCell ?_ (by simp only; omega) _)
      ·refine bodyPost_ret (v := .tuple #[vv (⟨2, 1, []⟩ : Val), .bool true]) (by simp [results, Tryz.results126, go_sem, vv, r0, r1, r2, hne, hne.symm]) rfl ?_
       unfold LitR
       rw [hR.out]
       refine ⟨?_, rfl, ?_⟩
       ·repeat (first | (with_reducible exact Mod.of_below hW.out) | refine Mod.set ?_ (.inr (by omega)) _ | refine Mod.set ?_ (.inl (by simp)) _)
       ·repeat (refine Ps.set ?_ (by omega) _)
        refine (HP.out.past ?_ 0 rfl (A' := some ⟨b, off + 8, none⟩) (fun _ => rfl) rfl rfl).2
        repeat (first | (with_reducible exact hW.out) | refine Below.setCell ?_ (by simp only; omega) _)
     ·by_cases hf : tt = [102, 97, 108, 115, 101]
      ·subst hf
       clear hp h2 h3 ht
       have hR : Hid (pLit ((1, [102, 97, 108, 115, 101], tv) :: l) = some ⟨2, 0, []⟩) := Lib.hid rfl
       go_enter Tryz.func126, Tryz.ntmps126
       go_wp2_with fail
       go_region
       have hW : Hid (Below w.heap.size w ((((w.alloc (Obj.cells #[Value.int .i64 0, Value.int .i64 0, Value.string ⟨#[]⟩] 40)).alloc (Obj.cells #[nv 1, sv [102, 97, 108, 115, 101], nv tv.k, nv tv.n, sv tv.s, nv tp, nv tq, nv tr] 93)).alloc (Obj.cells #[nv tv.k, nv tv.n, sv tv.s] 40)).drew)) := Lib.hid (by repeat (first | exact Below.refl _ _ | refine Below.drew ?_ | refine Below.alloc ?_ (by simp <;> omega) _))
       have E0 : Hid ((((w.alloc (Obj.cells #[Value.int .i64 0, Value.int .i64 0, Value.string ⟨#[]⟩] 40)).alloc (Obj.cells #[nv 1, sv [102, 97, 108, 115, 101], nv tv.k, nv tv.n, sv tv.s, nv tp, nv tq, nv tr] 93)).alloc (Obj.cells #[nv tv.k, nv tv.n, sv tv.s] 40)).drew.heap[w.heap.size]? = some (.cells #[Value.int .i64 0, Value.int .i64 0, Value.string ⟨#[]⟩] 40 (0, 0))) := Lib.hid (alloc_old' (alloc_old' (alloc_at rfl)))
       have E1 : Hid ((((w.alloc (Obj.cells #[Value.int .i64 0, Value.int .i64 0, Value.string ⟨#[]⟩] 40)).alloc (Obj.cells #[nv 1, sv [102, 97, 108, 115, 101], nv tv.k, nv tv.n, sv tv.s, nv tp, nv tq, nv tr] 93)).alloc (Obj.cells #[nv tv.k, nv tv.n, sv tv.s] 40)).drew.heap[w.heap.size + 1]? = some (.cells #[nv 1, sv [102, 97, 108, 115, 101], nv tv.k, nv tv.n, sv tv.s, nv tp, nv tq, nv tr] 93 (0, 0))) := Lib.hid (alloc_old' (alloc_at (by simp)))
       have E2 : Hid ((((w.alloc (Obj.cells #[Value.int .i64 0, Value.int .i64 0, Value.string ⟨#[]⟩] 40)).alloc (Obj.cells #[nv 1, sv [102, 97, 108, 115, 101], nv tv.k, nv tv.n, sv tv.s, nv tp, nv tq, nv tr] 93)).alloc (Obj.cells #[nv tv.k, nv tv.n, sv tv.s] 40)).drew.heap[w.heap.size + 1 + 1]? = some (.cells #[nv tv.k, nv tv.n, sv tv.s] 40 (0, 0))) := Lib.hid (alloc_at (by simp))
       obtain ⟨W, hWW⟩ : ∃ W, (((w.alloc (Obj.cells #[Value.int .i64 0, Value.int .i64 0, Value.string ⟨#[]⟩] 40)).alloc (Obj.cells #[nv 1, sv [102, 97, 108, 115, 101], nv tv.k, nv tv.n, sv tv.s, nv tp, nv tq, nv tr] 93)).alloc (Obj.cells #[nv tv.k, nv tv.n, sv tv.s] 40)).drew = W := ⟨_, rfl⟩
       rw [hWW] at hW E0 E1 E2 ⊢
       clear hWW
       have x0 : W.cell? ⟨g, 0, none⟩ = some (.slice (some ⟨b, off, none⟩) n c) := by rw [Lib.cell_of_heap ((hW.out.block g hlt).trans HP.out.box)]; rfl
       have xf0 : W.frozen? ⟨g, 0, none⟩ = false := Lib.frozen_of_heap ((hW.out.block g hlt).trans HP.out.box) 0
       have z0 : W.cell? ⟨w.heap.size + 1, 0, none⟩ = some (nv 1) := by rw [Lib.cell_of_heap E1.out]; rfl
       have z1 : W.cell? ⟨w.heap.size + 1, 1, none⟩ = some (sv [102, 97, 108, 115, 101]) := by rw [Lib.cell_of_heap E1.out]; rfl
       obtain ⟨v0, v1, v2⟩ := cells3 E2.out
       have vf := fun j => Lib.frozen_of_heap E2.out j
       have vf0 := vf 0
       have vf1 := vf 1
       have vf2 := vf 2
       clear vf
       obtain ⟨r0, r1, r2⟩ := cells3 E0.out
       have rf := fun j => Lib.frozen_of_heap E0.out j
       have rf0 := rf 0
       have rf1 := rf 1
       have rf2 := rf 2
       clear rf
       have hgb : g ≠ w.heap.size + 1 + 1 := by omega
       have hWs : Hid (w.heap.size + 1 + 1 < W.heap.size) := Lib.hid (Array.getElem?_eq_some_iff.1 E2.out).1
       go_wp2_with fail
       refine (bool_any _ _).mono ?_; rintro e w5 ⟨rfl, b5⟩
       have HB5 := Lib.hid b5
       unfold vv
       have u0 : w5.cell? ⟨g, 0, none⟩ = some (.slice (some ⟨b, off, none⟩) n c) := (b5.cell (p := ⟨g, 0, none⟩) (Nat.lt_of_lt_of_le hlt hW.out.size)).trans x0
       have uf0 : w5.frozen? ⟨g, 0, none⟩ = false := (b5.frozen (p := ⟨g, 0, none⟩) (Nat.lt_of_lt_of_le hlt hW.out.size)).trans xf0
       have E05 := Lib.hid (box_next E0.out b5)
       have E25 := Lib.hid (box_next E2.out b5)
       have hW5 := Lib.hid (bthen hW.out b5)
       clear b5 x0 xf0 z0 z1 v0 v1 v2 vf0 vf1 vf2 r0 r1 r2 rf0 rf1 rf2 E0 E1 E2 hW hWs HB5
       obtain ⟨r0, r1, r2⟩ := cells3 E05.out
       have rf := fun j => Lib.frozen_of_heap E05.out j
       have rf0 := rf 0
       have rf1 := rf 1
       have rf2 := rf 2
       clear rf
       obtain ⟨v0, v1, v2⟩ := cells3 E25.out
       have vf := fun j => Lib.frozen_of_heap E25.out j
       have vf0 := vf 0
       have vf1 := vf 1
       have vf2 := vf 2
       clear vf
       have hW := hW5
       clear hW5
       clear W
       generalize w5 = W at *
       go_wp2_with fail
       ·refine bodyPost_ret (v := .tuple #[vv (⟨2, 0, []⟩ : Val), .bool true]) (by simp [results, Tryz.results126, go_sem, vv, r0, r1, r2, hne, hne.symm]) rfl ?_
        unfold LitR
        rw [hR.out]
        refine ⟨?_, rfl, ?_⟩
        ·repeat (first | (with_reducible exact Mod.of_below hW.out) | refine Mod.set ?_ (.inr (by omega)) _ | refine Mod.set ?_ (.inl (by simp)) _)
        ·repeat (refine Ps.set ?_ (by omega) _)
         refine (HP.out.past ?_ 0 rfl (A' := some ⟨b, off, none⟩) (c' := 0) (fun h => absurd (by assumption) h) rfl (by omega)).2
         repeat (first | (with_reducible exact hW.out) | refine Below.setCell ?_ (by simp only; omega) _)
       ·refine bodyPost_ret (v := .tuple #[vv (⟨2, 0, []⟩ : Val), .bool true]) (by simp [results, Tryz.results126, go_sem, vv, r0, r1, r2, hne, hne.symm]) rfl ?_
        unfold LitR
        rw [hR.out]
        refine ⟨?_, rfl, ?_⟩
        ·repeat (first | (with_reducible exact Mod.of_below hW.out) | refine Mod.set ?_ (.inr (by omega)) _ | refine Mod.set ?_ (.inl (by simp)) _)
        ·repeat (refine Ps.set ?_ (by omega) _)
         refine (HP.out.past ?_ 0 rfl (A' := some ⟨b, off + 8, none⟩) (fun _ => rfl) rfl rfl).2
         repeat (first | (with_reducible exact hW.out) | refine Below.setCell ?_ (by simp only; omega) _)
      ·have hR : Hid (pLit ((1, tt, tv) :: l) = none) := Lib.hid (by simp [pLit, w_true, w_false, ht, hf])
       have e4 : (tt == [116, 114, 117, 101]) = false := by simpa using ht
       have e5 : (tt == [102, 97, 108, 115, 101]) = false := by simpa using hf
       clear hp h2 h3
       go_enter Tryz.func126, Tryz.ntmps126
       go_wp2_with fail
       go_region
       have hW : Hid (Below w.heap.size w ((((w.alloc (Obj.cells #[Value.int .i64 0, Value.int .i64 0, Value.string ⟨#[]⟩] 40)).alloc (Obj.cells #[nv 1, sv tt, nv tv.k, nv tv.n, sv tv.s, nv tp, nv tq, nv tr] 93)).alloc (Obj.cells #[nv tv.k, nv tv.n, sv tv.s] 40)).drew)) := Lib.hid (by repeat (first | exact Below.refl _ _ | refine Below.drew ?_ | refine Below.alloc ?_ (by simp <;> omega) _))
       have E0 : Hid ((((w.alloc (Obj.cells #[Value.int .i64 0, Value.int .i64 0, Value.string ⟨#[]⟩] 40)).alloc (Obj.cells #[nv 1, sv tt, nv tv.k, nv tv.n, sv tv.s, nv tp, nv tq, nv tr] 93)).alloc (Obj.cells #[nv tv.k, nv tv.n, sv tv.s] 40)).drew.heap[w.heap.size]? = some (.cells #[Value.int .i64 0, Value.int .i64 0, Value.string ⟨#[]⟩] 40 (0, 0))) := Lib.hid (alloc_old' (alloc_old' (alloc_at rfl)))
       have E1 : Hid ((((w.alloc (Obj.cells #[Value.int .i64 0, Value.int .i64 0, Value.string ⟨#[]⟩] 40)).alloc (Obj.cells #[nv 1, sv tt, nv tv.k, nv tv.n, sv tv.s, nv tp, nv tq, nv tr] 93)).alloc (Obj.cells #[nv tv.k, nv tv.n, sv tv.s] 40)).drew.heap[w.heap.size + 1]? = some (.cells #[nv 1, sv tt, nv tv.k, nv tv.n, sv tv.s, nv tp, nv tq, nv tr] 93 (0, 0))) := Lib.hid (alloc_old' (alloc_at (by simp)))
       have E2 : Hid ((((w.alloc (Obj.cells #[Value.int .i64 0, Value.int .i64 0, Value.string ⟨#[]⟩] 40)).alloc (Obj.cells #[nv 1, sv tt, nv tv.k, nv tv.n, sv tv.s, nv tp, nv tq, nv tr] 93)).alloc (Obj.cells #[nv tv.k, nv tv.n, sv tv.s] 40)).drew.heap[w.heap.size + 1 + 1]? = some (.cells #[nv tv.k, nv tv.n, sv tv.s] 40 (0, 0))) := Lib.hid (alloc_at (by simp))
       obtain ⟨W, hWW⟩ : ∃ W, (((w.alloc (Obj.cells #[Value.int .i64 0, Value.int .i64 0, Value.string ⟨#[]⟩] 40)).alloc (Obj.cells #[nv 1, sv tt, nv tv.k, nv tv.n, sv tv.s, nv tp, nv tq, nv tr] 93)).alloc (Obj.cells #[nv tv.k, nv tv.n, sv tv.s] 40)).drew = W := ⟨_, rfl⟩
       rw [hWW] at hW E0 E1 E2 ⊢
       clear hWW
       have x0 : W.cell? ⟨g, 0, none⟩ = some (.slice (some ⟨b, off, none⟩) n c) := by rw [Lib.cell_of_heap ((hW.out.block g hlt).trans HP.out.box)]; rfl
       have xf0 : W.frozen? ⟨g, 0, none⟩ = false := Lib.frozen_of_heap ((hW.out.block g hlt).trans HP.out.box) 0
       have z0 : W.cell? ⟨w.heap.size + 1, 0, none⟩ = some (nv 1) := by rw [Lib.cell_of_heap E1.out]; rfl
       have z1 : W.cell? ⟨w.heap.size + 1, 1, none⟩ = some (sv tt) := by rw [Lib.cell_of_heap E1.out]; rfl
       obtain ⟨v0, v1, v2⟩ := cells3 E2.out
       have vf := fun j => Lib.frozen_of_heap E2.out j
       have vf0 := vf 0
       have vf1 := vf 1
       have vf2 := vf 2
       clear vf
       obtain ⟨r0, r1, r2⟩ := cells3 E0.out
       have rf := fun j => Lib.frozen_of_heap E0.out j
       have rf0 := rf 0
       have rf1 := rf 1
       have rf2 := rf 2
       clear rf
       have hgb : g ≠ w.heap.size + 1 + 1 := by omega
       have hWs : Hid (w.heap.size + 1 + 1 < W.heap.size) := Lib.hid (Array.getElem?_eq_some_iff.1 E2.out).1
       go_wp2_with fail
       refine bodyPost_ret (v := .tuple #[.agg #[nv tv.k, nv tv.n, sv tv.s], .bool false]) (by simp [results, Tryz.results126, go_sem, r0, r1, r2]) rfl ?_
       unfold LitR
       rw [hR.out]
       refine ⟨?_, ⟨_, _, _, rfl⟩, ?_⟩
       ·repeat (first | (with_reducible exact Mod.of_below hW.out) | refine Mod.set ?_ (.inr (by omega)) _)
       ·repeat (first | (with_reducible exact HS.out.next hW.out) | refine Ps.set ?_ (by omega) _)
    ·have e1 : (tk == 1) = false := by simpa using h1
     have hR : Hid (pLit ((tk, tt, tv) :: l) = none) := Lib.hid (by simp [pLit, h1, h2, h3])
     clear hp h1 h2 h3
     go_enter Tryz.func126, Tryz.ntmps126
     go_wp2_with fail
     go_region
     have hW : Hid (Below w.heap.size w ((((w.alloc (Obj.cells #[Value.int .i64 0, Value.int .i64 0, Value.string ⟨#[]⟩] 40)).alloc (Obj.cells #[nv tk, sv tt, nv tv.k, nv tv.n, sv tv.s, nv tp, nv tq, nv tr] 93)).alloc (Obj.cells #[nv tv.k, nv tv.n, sv tv.s] 40)).drew)) := Lib.hid (by repeat (first | exact Below.refl _ _ | refine Below.drew ?_ | refine Below.alloc ?_ (by simp <;> omega) _))
     have E0 : Hid ((((w.alloc (Obj.cells #[Value.int .i64 0, Value.int .i64 0, Value.string ⟨#[]⟩] 40)).alloc (Obj.cells #[nv tk, sv tt, nv tv.k, nv tv.n, sv tv.s, nv tp, nv tq, nv tr] 93)).alloc (Obj.cells #[nv tv.k, nv tv.n, sv tv.s] 40)).drew.heap[w.heap.size]? = some (.cells #[Value.int .i64 0, Value.int .i64 0, Value.string ⟨#[]⟩] 40 (0, 0))) := Lib.hid (alloc_old' (alloc_old' (alloc_at rfl)))
     have E1 : Hid ((((w.alloc (Obj.cells #[Value.int .i64 0, Value.int .i64 0, Value.string ⟨#[]⟩] 40)).alloc (Obj.cells #[nv tk, sv tt, nv tv.k, nv tv.n, sv tv.s, nv tp, nv tq, nv tr] 93)).alloc (Obj.cells #[nv tv.k, nv tv.n, sv tv.s] 40)).drew.heap[w.heap.size + 1]? = some (.cells #[nv tk, sv tt, nv tv.k, nv tv.n, sv tv.s, nv tp, nv tq, nv tr] 93 (0, 0))) := Lib.hid (alloc_old' (alloc_at (by simp)))
     have E2 : Hid ((((w.alloc (Obj.cells #[Value.int .i64 0, Value.int .i64 0, Value.string ⟨#[]⟩] 40)).alloc (Obj.cells #[nv tk, sv tt, nv tv.k, nv tv.n, sv tv.s, nv tp, nv tq, nv tr] 93)).alloc (Obj.cells #[nv tv.k, nv tv.n, sv tv.s] 40)).drew.heap[w.heap.size + 1 + 1]? = some (.cells #[nv tv.k, nv tv.n, sv tv.s] 40 (0, 0))) := Lib.hid (alloc_at (by simp))
     obtain ⟨W, hWW⟩ : ∃ W, (((w.alloc (Obj.cells #[Value.int .i64 0, Value.int .i64 0, Value.string ⟨#[]⟩] 40)).alloc (Obj.cells #[nv tk, sv tt, nv tv.k, nv tv.n, sv tv.s, nv tp, nv tq, nv tr] 93)).alloc (Obj.cells #[nv tv.k, nv tv.n, sv tv.s] 40)).drew = W := ⟨_, rfl⟩
     rw [hWW] at hW E0 E1 E2 ⊢
     clear hWW
     have x0 : W.cell? ⟨g, 0, none⟩ = some (.slice (some ⟨b, off, none⟩) n c) := by rw [Lib.cell_of_heap ((hW.out.block g hlt).trans HP.out.box)]; rfl
     have xf0 : W.frozen? ⟨g, 0, none⟩ = false := Lib.frozen_of_heap ((hW.out.block g hlt).trans HP.out.box) 0
     have z0 : W.cell? ⟨w.heap.size + 1, 0, none⟩ = some (nv tk) := by rw [Lib.cell_of_heap E1.out]; rfl
     have z1 : W.cell? ⟨w.heap.size + 1, 1, none⟩ = some (sv tt) := by rw [Lib.cell_of_heap E1.out]; rfl
     obtain ⟨v0, v1, v2⟩ := cells3 E2.out
     have vf := fun j => Lib.frozen_of_heap E2.out j
     have vf0 := vf 0
     have vf1 := vf 1
     have vf2 := vf 2
     clear vf
     obtain ⟨r0, r1, r2⟩ := cells3 E0.out
     have rf := fun j => Lib.frozen_of_heap E0.out j
     have rf0 := rf 0
     have rf1 := rf 1
     have rf2 := rf 2
     clear rf
     have hgb : g ≠ w.heap.size + 1 + 1 := by omega
     have hWs : Hid (w.heap.size + 1 + 1 < W.heap.size) := Lib.hid (Array.getElem?_eq_some_iff.1 E2.out).1
     go_wp2_with fail
     refine bodyPost_ret (v := .tuple #[.agg #[nv tv.k, nv tv.n, sv tv.s], .bool false]) (by simp [results, Tryz.results126, go_sem, r0, r1, r2]) rfl ?_
     unfold LitR
     rw [hR.out]
     refine ⟨?_, ⟨_, _, _, rfl⟩, ?_⟩
     ·repeat (first | (with_reducible exact Mod.of_below hW.out) | refine Mod.set ?_ (.inr (by omega)) _)
     ·repeat (first | (with_reducible exact HS.out.next hW.out) | refine Ps.set ?_ (by omega) _)
end Go.Proofs.YtnbmpfdffoidaaaGreat.Y
