/- Texts of the proof, joined: SynSame, SynSameB, SynPq2, ShelfSplit, SynSpl. -/
import Derived.Test.YtnbmpfdffoidaaaGreatDoorBk02
import Derived.Test.YtnbmpfdffoidaaaGreatDoorBk04
import Derived.Test.YtnbmpfdffoidaaaGreatDoorBk07
import Derived.Test.YtnbmpfdffoidaaaGreatDoorBk11
import Derived.Test.YtnbmpfdffoidaaaGreatDoorBk12
import Derived.Shelf.Strings.SplitCore
import Derived.Shelf.Strings.Search1
import Derived.Test.YtnbmpfdffoidaaaGreatDoorProg
import Derived.Lib.IndexBytes
import Derived.Lib.SplitLaws
set_option linter.unusedVariables false
set_option linter.unusedSimpArgs false
set_option maxHeartbeats 8000000
set_option maxRecDepth 100000
namespace Go.Proofs.YtnbmpfdffoidaaaGreatDoor.Y
open Go.RowKit O V S X
theorem ex_ext {x y : Ex} : x = y ↔ ((hdK x = hdK y ∧ hdV x = hdV y) ∧ (hdN x = hdN y ∧ hdC x = hdC y) ∧ hdO x = hdO y) ∧ parts x = parts y := by
 cases x <;> cases y <;> simp [hdK, hdV, hdN, hdC, hdO, parts] <;> grind
def RX (w : World) (S : Nat → Prop) (A : Option Addr) (c : Nat) (l : List Ex) : Prop := ∃ es, Row w S 11 A l.length c es ∧ Reps (ExR w S) l es
theorem RX.keep {w w' : World} {S : Nat → Prop} {A : Option Addr} {c : Nat} {l : List Ex} (h : RX w S A c l) (hk : ∀ b, S b → w'.heap[b]? = w.heap[b]?) : RX w' S A c l := by
 obtain ⟨es, h1, h2⟩ := h
 exact ⟨es, h1.keep hk, h2.imp fun y us => ExR.keep hk y us⟩
theorem RX.at_ {w : World} {S : Nat → Prop} {l : List Ex} {A : Option Addr} {c : Nat} (h : RX w S A c l) {B : Nat} (hS : ∀ b, S b → b < B) {i : Nat} (hi : i < l.length) :
  ∃ b off A' c' p q r, A = some ⟨b, off, none⟩ ∧ b < B ∧ (∀ j, j < 11 → w.cell? ⟨b, off + i * 11 + j, none⟩ = (exC l[i] (.slice A' (parts l[i]).length c') p q r)[j]?) ∧ RX w S A' c' (parts l[i]) := by
 obtain ⟨es, h1, h2⟩ := h
 obtain ⟨b, off, vs, e, hb, hr, hc⟩ := (h1.rd hS).elem ExR.size h2 hi (by omega)
 obtain ⟨A', c', p, q, r, rfl, h3⟩ := ExAt.of hr
 exact ⟨b, off, A', c', p, q, r, e, hb, hc, h3.ex⟩
theorem take_same {α : Type} {l m : List α} {k : Nat} (h : k < l.length) (h' : k < m.length) (e : l.take k = m.take k) (he : l[k] = m[k]) : l.take (k + 1) = m.take (k + 1) := by
 rw [List.take_succ_eq_append_getElem h, List.take_succ_eq_append_getElem h', e, he]
theorem ne_at {α : Type} {l m : List α} {k : Nat} (h : k < l.length) (h' : k < m.length) (he : l[k] ≠ m[k]) : l ≠ m := fun e => he (by subst e; rfl)
def RetQ (P : Prop) (e : Ending) : Prop := ∃ b : Bool, e = .returned (.bool b) ∧ (b = true ↔ P)
def SameR (l : List Ex) : Prop := ∀ (m : List Ex) (A B : Option Addr) (c c' : Nat) (S S' : Nat → Prop) (w : World), RX w S A c l → RX w S' B c' m → (∀ b, S b → b < w.heap.size) → (∀ b, S' b → b < w.heap.size) → l.length ≤ 1000000 → m.length ≤ 1000000 →
 Calls Tryz.prog 59 #[.slice A l.length c, .slice B m.length c', .bool false] w fun e w' => RetQ (l = m) e ∧ Below w.heap.size w w'
theorem same_step (l : List Ex) (ih : ∀ x ∈ l, SameR (parts x)) : SameR l := by
 intro m A B c c' S S' w h1 h2 hS hS' hl hm
 have HIH := Lib.hid ih
 clear ih
 by_cases hne : l.length = m.length
 ·obtain ⟨n, hn⟩ : ∃ n, l.length = n := ⟨_, rfl⟩
  have hn2 : m.length = n := by omega
  have HN := Lib.hid hn
  have HN2 := Lib.hid hn2
  rw [hn, hn2]
  rw [hn] at hl
  clear hn hn2 hm hne
  have H1 := Lib.hid h1
  have H2 := Lib.hid h2
  have HS := Lib.hid hS
  have HS' := Lib.hid hS'
  clear h1 h2 hS hS'
  go_enter Tryz.func59, Tryz.ntmps59
  go_wp2_with fail
  go_loopw [6, 17] (fun _ i wr => ∃ k : Nat, k ≤ n ∧ i = .int .i64 k ∧ Hid (l.take k = m.take k) ∧ Below w.heap.size w wr) (fun _ i _ => n - (intOf i).toNat)
  case atStart => exact ⟨0, by omega, rfl, Lib.hid (by simp), Below.refl _ _⟩
  case round =>
   obtain ⟨k, hk, rfl, H, hb⟩ := hrel
   by_cases hlt : k < n
   ·have hlt' : k < l.length := by rw [HN.out]; exact hlt
    have hlt2 : k < m.length := by rw [HN2.out]; exact hlt
    have hki : (k : Int) < (n : Int) := by omega
    obtain ⟨b1, off1, A1, c1, p1, q1, r1, rfl, hb1, hc1, g1⟩ := (H1.out.keep (w' := wr) fun b hB => hb.block b (HS.out b hB)).at_ HS.out hlt'
    obtain ⟨b2, off2, A2, c2, p2, q2, r2, rfl, hb2, hc2, g2⟩ := (H2.out.keep (w' := wr) fun b hB => hb.block b (HS'.out b hB)).at_ HS'.out hlt2
    have hst := Lib.hid (take_same hlt' hlt2 H.out)
    have hno := Lib.hid (ne_at hlt' hlt2)
    have hih := Lib.hid (HIH.out _ (List.getElem_mem hlt'))
    have G1 := Lib.hid g1
    have G2 := Lib.hid g2
    have hL1 := parts_len l[k]
    have hL2 := parts_len m[k]
    have hx := Lib.hid (ex_ext (x := l[k]) (y := m[k]))
    clear g1 g2
    have hz := hb.size
    have hbw1 : b1 < wr.heap.size := by omega
    have hbw2 : b2 < wr.heap.size := by omega
    generalize l[k] = x at *
    generalize m[k] = y at *
    have HNO : Hid (¬ (((hdK x = hdK y ∧ hdV x = hdV y) ∧ (hdN x = hdN y ∧ hdC x = hdC y) ∧ hdO x = hdO y) ∧ parts x = parts y) → l ≠ m) := Lib.hid fun h => hno.out fun e => h (hx.out.1 e)
    have HYES : Hid (((hdK x = hdK y ∧ hdV x = hdV y) ∧ (hdN x = hdN y ∧ hdC x = hdC y) ∧ hdO x = hdO y) ∧ parts x = parts y → l.take (k + 1) = m.take (k + 1)) := Lib.hid fun h => hst.out (hx.out.2 h)
    clear hno hst hx
    unfold exC at hc1 hc2
    generalize hdK x = xk at *
    generalize hdV x = xv at *
    generalize hdN x = xn at *
    generalize hdC x = xc at *
    generalize hdO x = xo at *
    generalize hdK y = yk at *
    generalize hdV y = yv at *
    generalize hdN y = yn at *
    generalize hdC y = yc at *
    generalize hdO y = yo at *
    generalize parts x = xl at *
    generalize parts y = yl at *
    have xy0 : wr.cell? ⟨b1, off1 + k * 11, none⟩ = some (nv xk) := hc1 0 (by omega)
    have xy1 : wr.cell? ⟨b1, off1 + k * 11 + 1, none⟩ = some (nv xv.k) := hc1 1 (by omega)
    have xy2 : wr.cell? ⟨b1, off1 + k * 11 + 2, none⟩ = some (nv xv.n) := hc1 2 (by omega)
    have xy3 : wr.cell? ⟨b1, off1 + k * 11 + 3, none⟩ = some (sv xv.s) := hc1 3 (by omega)
    have xy4 : wr.cell? ⟨b1, off1 + k * 11 + 4, none⟩ = some (sv xn) := hc1 4 (by omega)
    have xy5 : wr.cell? ⟨b1, off1 + k * 11 + 5, none⟩ = some (sv xc) := hc1 5 (by omega)
    have xy6 : wr.cell? ⟨b1, off1 + k * 11 + 6, none⟩ = some (nv (xo : Nat)) := hc1 6 (by omega)
    have xy7 : wr.cell? ⟨b1, off1 + k * 11 + 7, none⟩ = some (.slice A1 xl.length c1) := hc1 7 (by omega)
    have xy8 : wr.cell? ⟨b1, off1 + k * 11 + 8, none⟩ = some (nv p1) := hc1 8 (by omega)
    have xy9 : wr.cell? ⟨b1, off1 + k * 11 + 9, none⟩ = some (nv q1) := hc1 9 (by omega)
    have xy10 : wr.cell? ⟨b1, off1 + k * 11 + 10, none⟩ = some (nv r1) := hc1 10 (by omega)
    have yy0 : wr.cell? ⟨b2, off2 + k * 11, none⟩ = some (nv yk) := hc2 0 (by omega)
    have yy1 : wr.cell? ⟨b2, off2 + k * 11 + 1, none⟩ = some (nv yv.k) := hc2 1 (by omega)
    have yy2 : wr.cell? ⟨b2, off2 + k * 11 + 2, none⟩ = some (nv yv.n) := hc2 2 (by omega)
    have yy3 : wr.cell? ⟨b2, off2 + k * 11 + 3, none⟩ = some (sv yv.s) := hc2 3 (by omega)
    have yy4 : wr.cell? ⟨b2, off2 + k * 11 + 4, none⟩ = some (sv yn) := hc2 4 (by omega)
    have yy5 : wr.cell? ⟨b2, off2 + k * 11 + 5, none⟩ = some (sv yc) := hc2 5 (by omega)
    have yy6 : wr.cell? ⟨b2, off2 + k * 11 + 6, none⟩ = some (nv (yo : Nat)) := hc2 6 (by omega)
    have yy7 : wr.cell? ⟨b2, off2 + k * 11 + 7, none⟩ = some (.slice A2 yl.length c2) := hc2 7 (by omega)
    have yy8 : wr.cell? ⟨b2, off2 + k * 11 + 8, none⟩ = some (nv p2) := hc2 8 (by omega)
    have yy9 : wr.cell? ⟨b2, off2 + k * 11 + 9, none⟩ = some (nv q2) := hc2 9 (by omega)
    have yy10 : wr.cell? ⟨b2, off2 + k * 11 + 10, none⟩ = some (nv r2) := hc2 10 (by omega)
    clear hc1 hc2 H
    by_cases e0 : xk = yk
    ·subst e0
     by_cases e1 : xv = yv
     ·subst e1
      have s1 := fun w => vneq_no xv w
      by_cases e2 : xn = yn
      ·subst e2
       have s2 := fun w => sneq_no xn w
       by_cases e3 : xc = yc
       ·subst e3
        have s3 := fun w => sneq_no xc w
        by_cases e4 : xo = yo
        ·subst e4
         go_wp2_with fail
         refine (hih.out yl A1 A2 c1 c2 S S' _ (G1.out.keep fun b hB => ?_) (G2.out.keep fun b hB => ?_) (fun b hB => ?_) (fun b hB => ?_) (by omega) (by omega)).mono ?_
         ·exact ((Below.refl wr.heap.size wr).alloc (Nat.le_refl _) _ |>.alloc (by simp) _).block b (by have := HS.out b hB; omega)
         ·exact ((Below.refl wr.heap.size wr).alloc (Nat.le_refl _) _ |>.alloc (by simp) _).block b (by have := HS'.out b hB; omega)
         ·have := HS.out b hB; simp; omega
         ·have := HS'.out b hB; simp; omega
         rintro e w5 ⟨⟨bb, rfl, hbb⟩, b5⟩
         have HBB := Lib.hid hbb
         clear hbb
         have B5 : Below w.heap.size w w5 := bthen (by repeat (first | (with_reducible exact hb) | refine Below.alloc ?_ (by first | omega | (simp <;> omega)) _)) b5
         cases bb with
         | false =>
          go_wp2_with fail
          go_ret
          refine ⟨⟨false, rfl, ?_⟩, B5⟩
          have := HNO.out (by simpa using HBB.out)
          simp [this]
         | true =>
          go_wp2_with fail
          go_roundw
          case rel => exact ⟨k + 1, by omega, by go_num, Lib.hid (HYES.out (by simpa using HBB.out)), B5⟩
          case measure => simp [intOf]; omega
        ·have d4 : ((xo : Int) != (yo : Int)) = true := by simp; omega
         go_wp2_with fail
         go_ret
         refine ⟨⟨false, rfl, ?_⟩, ?_⟩
         ·have := HNO.out (fun h => e4 h.1.2.2)
          simp [this]
         ·repeat (first | (with_reducible exact hb) | refine Below.alloc ?_ (by first | omega | (simp <;> omega)) _)
       ·have s3 := fun w => sneq_yes e3 w
        go_wp2_with fail
        go_ret
        refine ⟨⟨false, rfl, ?_⟩, ?_⟩
        ·have := HNO.out (fun h => e3 h.1.2.1.2)
         simp [this]
        ·repeat (first | (with_reducible exact hb) | refine Below.alloc ?_ (by first | omega | (simp <;> omega)) _)
      ·have s2 := fun w => sneq_yes e2 w
       go_wp2_with fail
       go_ret
       refine ⟨⟨false, rfl, ?_⟩, ?_⟩
       ·have := HNO.out (fun h => e2 h.1.2.1.1)
        simp [this]
       ·repeat (first | (with_reducible exact hb) | refine Below.alloc ?_ (by first | omega | (simp <;> omega)) _)
     ·have s1 := fun w => vneq_yes e1 w
      go_wp2_with fail
      go_ret
      refine ⟨⟨false, rfl, ?_⟩, ?_⟩
      ·have := HNO.out (fun h => e1 h.1.1.2)
       simp [this]
      ·repeat (first | (with_reducible exact hb) | refine Below.alloc ?_ (by first | omega | (simp <;> omega)) _)
    ·have d0 : (xk != yk) = true := by simpa using e0
     go_wp2_with fail
     go_ret
     refine ⟨⟨false, rfl, ?_⟩, ?_⟩
     ·have := HNO.out (fun h => e0 h.1.1.1)
      simp [this]
     ·repeat (first | (with_reducible exact hb) | refine Below.alloc ?_ (by first | omega | (simp <;> omega)) _)
   ·obtain rfl : k = n := by omega
    have hall : l = m := by
     have := H.out
     rwa [List.take_of_length_le (by rw [HN.out]; exact Nat.le_refl _), List.take_of_length_le (by rw [HN2.out]; exact Nat.le_refl _)] at this
    go_wp2_with fail
    go_ret
    exact ⟨⟨true, rfl, by simp [hall]⟩, hb⟩
 ·have hr : Hid (l ≠ m) := Lib.hid (fun e => hne (by rw [e]))
  have d1 : ((l.length : Int) != (m.length : Int)) = true := by simp; omega
  clear h1 h2
  go_enter Tryz.func59, Tryz.ntmps59
  go_wp2_with fail
  go_ret
  exact ⟨⟨false, rfl, by simp [hr.out]⟩, Below.refl _ _⟩
theorem sameR_parts : ∀ x : Ex, SameR (parts x) := Ex.ind fun x ih => same_step _ ih
theorem sameR_any (l : List Ex) : SameR l := same_step l fun x _ => sameR_parts x
end Go.Proofs.YtnbmpfdffoidaaaGreatDoor.Y
namespace Go.Proofs.YtnbmpfdffoidaaaGreatDoor.Y
open Go.RowKit O V S X
theorem st_ext {x y : St} : x = y ↔ ((stK x = stK y ∧ stN x = stN y) ∧ (stT x = stT y ∧ stC x = stC y) ∧ stI x = stI y) ∧ stA x = stA y ∧ stB x = stB y ∧ stE x = stE y := by
 cases x <;> cases y <;> simp [stK, stN, stT, stC, stI, stA, stB, stE] <;> grind
theorem list_inj : ∀ {a b : Sts}, a.list = b.list → a = b
 | .nil, .nil, _ => rfl
 | .nil, .cons s r, h => by simp [Sts.list] at h
 | .cons s r, .nil, h => by simp [Sts.list] at h
 | .cons s r, .cons s' r', h => by
  simp only [Sts.list, List.cons.injEq] at h
  rw [h.1, list_inj h.2]
def RS (w : World) (S : Nat → Prop) (A : Option Addr) (c : Nat) (b : Sts) : Prop := ∃ es, Row w S 11 A b.len c es ∧ StsR w S b es
theorem RS.keep {w w' : World} {S : Nat → Prop} {A : Option Addr} {c : Nat} {b : Sts} (h : RS w S A c b) (hk : ∀ b, S b → w'.heap[b]? = w.heap[b]?) : RS w' S A c b := by
 obtain ⟨es, h1, h2⟩ := h
 exact ⟨es, h1.keep hk, StsR.keep hk _ _ h2⟩
theorem RS.cap {w : World} {S : Nat → Prop} {A : Option Addr} {c : Nat} {b : Sts} (h : RS w S A c b) : b.len ≤ c ∧ c ≤ 9223372036854775807 := by
 obtain ⟨es, h1, _⟩ := h
 exact h1.cap
theorem RX.cap {w : World} {S : Nat → Prop} {A : Option Addr} {c : Nat} {l : List Ex} (h : RX w S A c l) : l.length ≤ c ∧ c ≤ 9223372036854775807 := by
 obtain ⟨es, h1, _⟩ := h
 exact h1.cap
theorem RS.at_ {w : World} {S : Nat → Prop} {l : Sts} {A : Option Addr} {c : Nat} (h : RS w S A c l) {B : Nat} (hS : ∀ b, S b → b < B) {i : Nat} (hi : i < l.list.length) :
  ∃ b off A' c' B' d' E' f', ∃ p q r : Int, (A = some ⟨b, off, none⟩ ∧ b < B) ∧ (∀ j, j < 11 → w.cell? ⟨b, off + i * 11 + j, none⟩ = (stV l.list[i] (.slice A' (stA l.list[i]).length c') (.slice B' (stB l.list[i]).len d') (.slice E' (stE l.list[i]).len f') p q r)[j]?) ∧ RX w S A' c' (stA l.list[i]) ∧ RS w S B' d' (stB l.list[i]) ∧ RS w S E' f' (stE l.list[i]) := by
 obtain ⟨es, h1, h2⟩ := h
 have h3 := (StsR_reps _ _).1 h2
 rw [Sts.list_len] at hi
 obtain ⟨b, off, vs, e, hb, hr, hc⟩ := (h1.rd hS).elem StR.size h3 (i := i) (by rw [Sts.list_len]; exact hi) (by omega)
 obtain ⟨A', c', es', B', d', bs', E', f', fs', p, q, r, rfl, ⟨h5, h6⟩, ⟨h7, h8⟩, h9, h10⟩ := (StR_eq _ _).1 hr
 exact ⟨b, off, A', c', B', d', E', f', p, q, r, ⟨e, hb⟩, hc, ⟨_, h5, h6⟩, ⟨_, h7, h8⟩, ⟨_, h9, h10⟩⟩
def SameB (l : Sts) : Prop := ∀ (m : Sts) (A B : Option Addr) (c c' : Nat) (S S' : Nat → Prop) (w : World), RS w S A c l → RS w S' B c' m → (∀ b, S b → b < w.heap.size) → (∀ b, S' b → b < w.heap.size) →
 Calls Tryz.prog 25 #[.slice A l.len c, .slice B m.len c', .bool false] w fun e w' => RetQ (l = m) e ∧ Below w.heap.size w w'
theorem stA_len (s : St) : (stA s).length ≤ 2 := by cases s <;> simp [stA]
theorem sameB_step (l : Sts) (ih : ∀ x ∈ l.list, SameB (stB x) ∧ SameB (stE x)) : SameB l := by
 intro m A B c c' S S' w h1 h2 hS hS'
 have hcl := h1.cap
 have hcm := h2.cap
 have HIH := Lib.hid ih
 clear ih
 by_cases hne : l.len = m.len
 ·obtain ⟨n, hn⟩ : ∃ n, l.len = n := ⟨_, rfl⟩
  have hn2 : m.len = n := by omega
  have HN : Hid (l.list.length = n) := Lib.hid (by rw [Sts.list_len]; exact hn)
  have HN2 : Hid (m.list.length = n) := Lib.hid (by rw [Sts.list_len]; exact hn2)
  rw [hn] at hcl
  rw [hn2] at hcm
  rw [hn, hn2]
  clear hn hn2 hne
  have H1 := Lib.hid h1
  have H2 := Lib.hid h2
  have HS := Lib.hid hS
  have HS' := Lib.hid hS'
  clear h1 h2 hS hS'
  go_enter Tryz.func25, Tryz.ntmps25
  go_wp2_with fail
  go_loopw [6, 17] (fun _ i wr => ∃ k : Nat, k ≤ n ∧ i = .int .i64 k ∧ Hid (l.list.take k = m.list.take k) ∧ Below w.heap.size w wr) (fun _ i _ => n - (intOf i).toNat)
  case atStart => exact ⟨0, by omega, rfl, Lib.hid (by simp), Below.refl _ _⟩
  case round =>
   obtain ⟨k, hk, rfl, H, hb⟩ := hrel
   by_cases hlt : k < n
   ·have hlt' : k < l.list.length := by rw [HN.out]; exact hlt
    have hlt2 : k < m.list.length := by rw [HN2.out]; exact hlt
    have hki : (k : Int) < (n : Int) := by omega
    obtain ⟨b1, off1, A1, c1, B1, d1, E1, f1, p1, q1, r1, ⟨rfl, hb1⟩, hc1, ga1, gb1, ge1⟩ := (H1.out.keep (w' := wr) fun b hB => hb.block b (HS.out b hB)).at_ HS.out hlt'
    obtain ⟨b2, off2, A2, c2, B2, d2, E2, f2, p2, q2, r2, ⟨rfl, hb2⟩, hc2, ga2, gb2, ge2⟩ := (H2.out.keep (w' := wr) fun b hB => hb.block b (HS'.out b hB)).at_ HS'.out hlt2
    have hst := Lib.hid (take_same hlt' hlt2 H.out)
    have hno := Lib.hid (ne_at hlt' hlt2)
    have hih := Lib.hid (HIH.out _ (List.getElem_mem hlt'))
    have GA1 := Lib.hid ga1
    have GA2 := Lib.hid ga2
    have GB1 := Lib.hid gb1
    have GB2 := Lib.hid gb2
    have GE1 := Lib.hid ge1
    have GE2 := Lib.hid ge2
    have hL1 := stA_len l.list[k]
    have hL2 := stA_len m.list[k]
    have hx := Lib.hid (st_ext (x := l.list[k]) (y := m.list[k]))
    clear ga1 ga2 gb1 gb2 ge1 ge2
    have hz := hb.size
    have hbw1 : b1 < wr.heap.size := by omega
    have hbw2 : b2 < wr.heap.size := by omega
    generalize l.list[k] = x at *
    generalize m.list[k] = y at *
    have HNO : Hid (¬ (((stK x = stK y ∧ stN x = stN y) ∧ (stT x = stT y ∧ stC x = stC y) ∧ stI x = stI y) ∧ stA x = stA y ∧ stB x = stB y ∧ stE x = stE y) → l ≠ m) := Lib.hid fun h e => hno.out (fun e => h (hx.out.1 e)) (by rw [e])
    have HYES : Hid (((stK x = stK y ∧ stN x = stN y) ∧ (stT x = stT y ∧ stC x = stC y) ∧ stI x = stI y) ∧ stA x = stA y ∧ stB x = stB y ∧ stE x = stE y → l.list.take (k + 1) = m.list.take (k + 1)) := Lib.hid fun h => hst.out (hx.out.2 h)
    clear hno hst hx
    unfold stV at hc1 hc2
    generalize stK x = xk at *
    generalize stK y = yk at *
    generalize stN x = xn at *
    generalize stN y = yn at *
    generalize stT x = xt at *
    generalize stT y = yt at *
    generalize stC x = xc at *
    generalize stC y = yc at *
    generalize stI x = xi at *
    generalize stI y = yi at *
    generalize stA x = xa at *
    generalize stA y = ya at *
    generalize stB x = xb at *
    generalize stB y = yb at *
    generalize stE x = xe at *
    generalize stE y = ye at *
    have xy0 : wr.cell? ⟨b1, off1 + k * 11, none⟩ = some (nv xk) := hc1 0 (by omega)
    have xy1 : wr.cell? ⟨b1, off1 + k * 11 + 1, none⟩ = some (sv xn) := hc1 1 (by omega)
    have xy2 : wr.cell? ⟨b1, off1 + k * 11 + 2, none⟩ = some (sv xt) := hc1 2 (by omega)
    have xy3 : wr.cell? ⟨b1, off1 + k * 11 + 3, none⟩ = some (sv xc) := hc1 3 (by omega)
    have xy4 : wr.cell? ⟨b1, off1 + k * 11 + 4, none⟩ = some (nv xi) := hc1 4 (by omega)
    have xy5 : wr.cell? ⟨b1, off1 + k * 11 + 5, none⟩ = some (.slice A1 xa.length c1) := hc1 5 (by omega)
    have xy6 : wr.cell? ⟨b1, off1 + k * 11 + 6, none⟩ = some (.slice B1 xb.len d1) := hc1 6 (by omega)
    have xy7 : wr.cell? ⟨b1, off1 + k * 11 + 7, none⟩ = some (.slice E1 xe.len f1) := hc1 7 (by omega)
    have xy8 : wr.cell? ⟨b1, off1 + k * 11 + 8, none⟩ = some (nv p1) := hc1 8 (by omega)
    have xy9 : wr.cell? ⟨b1, off1 + k * 11 + 9, none⟩ = some (nv q1) := hc1 9 (by omega)
    have xy10 : wr.cell? ⟨b1, off1 + k * 11 + 10, none⟩ = some (nv r1) := hc1 10 (by omega)
    have yy0 : wr.cell? ⟨b2, off2 + k * 11, none⟩ = some (nv yk) := hc2 0 (by omega)
    have yy1 : wr.cell? ⟨b2, off2 + k * 11 + 1, none⟩ = some (sv yn) := hc2 1 (by omega)
    have yy2 : wr.cell? ⟨b2, off2 + k * 11 + 2, none⟩ = some (sv yt) := hc2 2 (by omega)
    have yy3 : wr.cell? ⟨b2, off2 + k * 11 + 3, none⟩ = some (sv yc) := hc2 3 (by omega)
    have yy4 : wr.cell? ⟨b2, off2 + k * 11 + 4, none⟩ = some (nv yi) := hc2 4 (by omega)
    have yy5 : wr.cell? ⟨b2, off2 + k * 11 + 5, none⟩ = some (.slice A2 ya.length c2) := hc2 5 (by omega)
    have yy6 : wr.cell? ⟨b2, off2 + k * 11 + 6, none⟩ = some (.slice B2 yb.len d2) := hc2 6 (by omega)
    have yy7 : wr.cell? ⟨b2, off2 + k * 11 + 7, none⟩ = some (.slice E2 ye.len f2) := hc2 7 (by omega)
    have yy8 : wr.cell? ⟨b2, off2 + k * 11 + 8, none⟩ = some (nv p2) := hc2 8 (by omega)
    have yy9 : wr.cell? ⟨b2, off2 + k * 11 + 9, none⟩ = some (nv q2) := hc2 9 (by omega)
    have yy10 : wr.cell? ⟨b2, off2 + k * 11 + 10, none⟩ = some (nv r2) := hc2 10 (by omega)
    clear hc1 hc2 H
    by_cases e0 : xk = yk
    ·subst e0
     by_cases e1 : xn = yn
     ·subst e1
      have s1 := fun w => sneq_no xn w
      by_cases e2 : xt = yt
      ·subst e2
       have s2 := fun w => sneq_no xt w
       by_cases e3 : xc = yc
       ·subst e3
        have s3 := fun w => sneq_no xc w
        by_cases e4 : xi = yi
        ·subst e4
         have D0 : Below wr.heap.size wr ((wr.alloc (.cells #[nv xk, sv xn, sv xt, sv xc, nv xi, .slice A1 xa.length c1, .slice B1 xb.len d1, .slice E1 xe.len f1, nv p1, nv q1, nv r1] 44)).alloc (.cells #[nv xk, sv xn, sv xt, sv xc, nv xi, .slice A2 ya.length c2, .slice B2 yb.len d2, .slice E2 ye.len f2, nv p2, nv q2, nv r2] 44)) := by repeat (first | exact Below.refl _ _ | refine Below.alloc ?_ (by first | omega | (simp <;> omega)) _)
         go_upto_region 10 with fail
         obtain ⟨w2, hw2⟩ : ∃ W, (wr.alloc (.cells #[nv xk, sv xn, sv xt, sv xc, nv xi, .slice A1 xa.length c1, .slice B1 xb.len d1, .slice E1 xe.len f1, nv p1, nv q1, nv r1] 44)).alloc (.cells #[nv xk, sv xn, sv xt, sv xc, nv xi, .slice A2 ya.length c2, .slice B2 yb.len d2, .slice E2 ye.len f2, nv p2, nv q2, nv r2] 44) = W := ⟨_, rfl⟩
         have X1 : Hid (w2.heap[wr.heap.size]? = some (.cells #[nv xk, sv xn, sv xt, sv xc, nv xi, .slice A1 xa.length c1, .slice B1 xb.len d1, .slice E1 xe.len f1, nv p1, nv q1, nv r1] 44 (0, 0))) := Lib.hid (by rw [← hw2]; exact alloc_old' (alloc_at rfl))
         have X2 : Hid (w2.heap[wr.heap.size + 1]? = some (.cells #[nv xk, sv xn, sv xt, sv xc, nv xi, .slice A2 ya.length c2, .slice B2 yb.len d2, .slice E2 ye.len f2, nv p2, nv q2, nv r2] 44 (0, 0))) := Lib.hid (by rw [← hw2]; exact alloc_at (by simp))
         rw [hw2] at D0 ⊢
         clear hw2
         have hzd := D0.size
         clear xy0 xy1 xy2 xy3 xy4 xy5 xy6 xy7 xy8 xy9 xy10 yy0 yy1 yy2 yy3 yy4 yy5 yy6 yy7 yy8 yy9 yy10
         obtain ⟨⟨⟨⟨u0, u1⟩, u2, u3⟩, ⟨u4, u5⟩, u6, u7⟩, ⟨u8, u9⟩, u10⟩ := cells11 X1.out
         obtain ⟨⟨⟨⟨z0, z1⟩, z2, z3⟩, ⟨z4, z5⟩, z6, z7⟩, ⟨z8, z9⟩, z10⟩ := cells11 X2.out
         go_wp2_with fail
         refine (sameR_any xa ya A1 A2 c1 c2 S S' w2 (GA1.out.keep fun b hB => D0.block b (by have := HS.out b hB; omega)) (GA2.out.keep fun b hB => D0.block b (by have := HS'.out b hB; omega)) (fun b hB => by have := HS.out b hB; omega) (fun b hB => by have := HS'.out b hB; omega) (by omega) (by omega)).mono ?_
         rintro e w5 ⟨⟨g1, rfl, hg1⟩, b5⟩
         have HG1 := Lib.hid hg1
         clear hg1
         have D5 := bthen D0 b5
         have hz5 := D5.size
         have B5 : Below w.heap.size w w5 := hb.trans (D5.mono hb.size)
         replace X1 := Lib.hid (box_next X1.out b5)
         replace X2 := Lib.hid (box_next X2.out b5)
         clear b5 u0 u1 u2 u3 u4 u5 u6 u7 u8 u9 u10 z0 z1 z2 z3 z4 z5 z6 z7 z8 z9 z10
         obtain ⟨⟨⟨⟨u0, u1⟩, u2, u3⟩, ⟨u4, u5⟩, u6, u7⟩, ⟨u8, u9⟩, u10⟩ := cells11 X1.out
         obtain ⟨⟨⟨⟨z0, z1⟩, z2, z3⟩, ⟨z4, z5⟩, z6, z7⟩, ⟨z8, z9⟩, z10⟩ := cells11 X2.out
         cases g1 with
         | false =>
          go_wp2_with fail
          go_ret
          refine ⟨⟨false, rfl, ?_⟩, B5⟩
          have := HNO.out (by have := HG1.out; simp at this; simp [this])
          simp [this]
         | true =>
          go_wp2_with fail
          refine (hih.out.1 yb B1 B2 d1 d2 S S' w5 (GB1.out.keep fun b hB => D5.block b (by have := HS.out b hB; omega)) (GB2.out.keep fun b hB => D5.block b (by have := HS'.out b hB; omega)) (fun b hB => by have := HS.out b hB; omega) (fun b hB => by have := HS'.out b hB; omega)).mono ?_
          rintro e w6 ⟨⟨g2, rfl, hg2⟩, b6⟩
          have HG2 := Lib.hid hg2
          clear hg2
          have D6 := bthen D5 b6
          have hz6 := D6.size
          have B6 : Below w.heap.size w w6 := hb.trans (D6.mono hb.size)
          replace X1 := Lib.hid (box_next X1.out b6)
          replace X2 := Lib.hid (box_next X2.out b6)
          clear b6 u0 u1 u2 u3 u4 u5 u6 u7 u8 u9 u10 z0 z1 z2 z3 z4 z5 z6 z7 z8 z9 z10
          obtain ⟨⟨⟨⟨u0, u1⟩, u2, u3⟩, ⟨u4, u5⟩, u6, u7⟩, ⟨u8, u9⟩, u10⟩ := cells11 X1.out
          obtain ⟨⟨⟨⟨z0, z1⟩, z2, z3⟩, ⟨z4, z5⟩, z6, z7⟩, ⟨z8, z9⟩, z10⟩ := cells11 X2.out
          cases g2 with
          | false =>
           go_wp2_with fail
           go_ret
           refine ⟨⟨false, rfl, ?_⟩, B6⟩
           have := HNO.out (by have := HG2.out; simp at this; simp [this])
           simp [this]
          | true =>
           go_wp2_with fail
           refine (hih.out.2 ye E1 E2 f1 f2 S S' w6 (GE1.out.keep fun b hB => D6.block b (by have := HS.out b hB; omega)) (GE2.out.keep fun b hB => D6.block b (by have := HS'.out b hB; omega)) (fun b hB => by have := HS.out b hB; omega) (fun b hB => by have := HS'.out b hB; omega)).mono ?_
           rintro e w7 ⟨⟨g3, rfl, hg3⟩, b7⟩
           have HG3 := Lib.hid hg3
           clear hg3
           have D7 := bthen D6 b7
           have B7 : Below w.heap.size w w7 := hb.trans (D7.mono hb.size)
           clear b7
           cases g3 with
           | false =>
            go_wp2_with fail
            go_ret
            refine ⟨⟨false, rfl, ?_⟩, B7⟩
            have := HNO.out (by have := HG3.out; simp at this; simp [this])
            simp [this]
           | true =>
            have hyes := HYES.out (by have h1 := HG1.out; have h2 := HG2.out; have h3 := HG3.out; simp at h1 h2 h3; simp [h1, h2, h3])
            have HY := Lib.hid hyes
            clear hyes
            go_wp2_with fail
            go_roundw
            case rel => exact ⟨k + 1, by omega, by go_num, HY, B7⟩
            case measure => simp [intOf]; omega
        ·have d4 : (xi != yi) = true := by simpa using e4
         go_wp2_with fail
         go_ret
         refine ⟨⟨false, rfl, ?_⟩, ?_⟩
         ·have := HNO.out (fun h => e4 h.1.2.2)
          simp [this]
         ·repeat (first | (with_reducible exact hb) | refine Below.alloc ?_ (by first | omega | (simp <;> omega)) _)
       ·have s3 := fun w => sneq_yes e3 w
        go_wp2_with fail
        go_ret
        refine ⟨⟨false, rfl, ?_⟩, ?_⟩
        ·have := HNO.out (fun h => e3 h.1.2.1.2)
         simp [this]
        ·repeat (first | (with_reducible exact hb) | refine Below.alloc ?_ (by first | omega | (simp <;> omega)) _)
      ·have s2 := fun w => sneq_yes e2 w
       go_wp2_with fail
       go_ret
       refine ⟨⟨false, rfl, ?_⟩, ?_⟩
       ·have := HNO.out (fun h => e2 h.1.2.1.1)
        simp [this]
       ·repeat (first | (with_reducible exact hb) | refine Below.alloc ?_ (by first | omega | (simp <;> omega)) _)
     ·have s1 := fun w => sneq_yes e1 w
      go_wp2_with fail
      go_ret
      refine ⟨⟨false, rfl, ?_⟩, ?_⟩
      ·have := HNO.out (fun h => e1 h.1.1.2)
       simp [this]
      ·repeat (first | (with_reducible exact hb) | refine Below.alloc ?_ (by first | omega | (simp <;> omega)) _)
    ·have d0 : (xk != yk) = true := by simpa using e0
     go_wp2_with fail
     go_ret
     refine ⟨⟨false, rfl, ?_⟩, ?_⟩
     ·have := HNO.out (fun h => e0 h.1.1.1)
      simp [this]
     ·repeat (first | (with_reducible exact hb) | refine Below.alloc ?_ (by first | omega | (simp <;> omega)) _)
   ·obtain rfl : k = n := by omega
    have hall : l = m := by
     have := H.out
     rw [List.take_of_length_le (by rw [HN.out]; exact Nat.le_refl _), List.take_of_length_le (by rw [HN2.out]; exact Nat.le_refl _)] at this
     exact list_inj this
    go_wp2_with fail
    go_ret
    exact ⟨⟨true, rfl, by simp [hall]⟩, hb⟩
 ·have hr : Hid (l ≠ m) := Lib.hid (fun e => hne (by rw [e]))
  have d1 : ((l.len : Int) != (m.len : Int)) = true := by simp; omega
  clear h1 h2
  go_enter Tryz.func25, Tryz.ntmps25
  go_wp2_with fail
  go_ret
  exact ⟨⟨false, rfl, by simp [hr.out]⟩, Below.refl _ _⟩
theorem sameB_any : ∀ b : Sts, SameB b := fun b =>
 (Sts.indM (P := fun s => SameB (stB s) ∧ SameB (stE s)) (Q := fun b => (∀ x ∈ b.list, SameB (stB x) ∧ SameB (stE x)) ∧ SameB b)
  (fun s h1 h2 => ⟨h1.2, h2.2⟩)
  ⟨fun x hx => (by cases hx), sameB_step .nil (fun x hx => (by cases hx))⟩
  (fun s r h1 h2 => by
   have h : ∀ x ∈ (Sts.cons s r).list, SameB (stB x) ∧ SameB (stE x) := fun x hx => by
    rcases List.mem_cons.1 hx with rfl | hx
    ·exact h1
    ·exact h2.1 x hx
   exact ⟨h, sameB_step _ h⟩) b).2
end Go.Proofs.YtnbmpfdffoidaaaGreatDoor.Y
namespace Go.Proofs.YtnbmpfdffoidaaaGreatDoor.Y
open Go.RowKit O V S X
theorem toksB_l : ∀ b : Sts, toksB b = b.list.flatMap toksS
 | .nil => by rw [toksB]; rfl
 | .cons s r => by rw [toksB, Sts.list, List.flatMap_cons, toksB_l r]
theorem okB_l : ∀ {b : Sts}, okB b → ∀ x ∈ b.list, okS x
 | .nil, _, x, hx => by cases hx
 | .cons s r, h, x, hx => by
  rw [okB] at h
  rcases List.mem_cons.1 hx with rfl | hx
  ·exact h.1
  ·exact okB_l h.2 x hx
theorem prt_at {l : List Ex} {A : Option Addr} {c : Nat} {S : Nat → Prop} {i g : Nat} {w : World} (hl : l.length ≤ 2) (hi : i < l.length) (hg : g ≤ w.heap.size) (h : RX w S A c l) (hS : ∀ b, S b → b < g) (k : Int) (nm tt cc : List UInt8) (n : Int) (b e : Value) (p q r : Int) :
  ∃ A' c' p' q' r', Prt g (smV k nm tt cc n (.slice A l.length c) b e p q r) i (exX l[i] A' c' p' q' r') w ∧ ExAt w S l[i] A' c' := by
 obtain ⟨b1, off, A', c', p', q', r', rfl, hb, hc, h3⟩ := h.at_ hS hi
 refine ⟨A', c', p', q', r', fun w' hw => ?_, ⟨h3⟩⟩
 exact spart_raw k nm tt cc n b e p q r b1 off l.length c i rfl hi (by omega) _ _ _ _ _ _ _ A' _ c' p' q' r' w' (by have := hw.size; omega) (fun j hj => (hw.cell (p := ⟨b1, off + i * 11 + j, none⟩) hb).trans (hc j hj))
def PB (b : Sts) : Prop := okB b → ∀ (A : Option Addr) (c g : Nat) (S : Nat → Prop) (w : World), RS w S A c b → (∀ x, S x → x < g) → g ≤ w.heap.size →
 Run 55 #[.pointer (some ⟨g, 0, none⟩), .slice A b.len c] g ([123] :: (txts (toksB b) ++ [[125]])) w
def PS (x : St) : Prop := okS x → ∀ (A : Option Addr) (c : Nat) (B : Option Addr) (d : Nat) (E : Option Addr) (f : Nat) (p q r : Int) (g : Nat) (S : Nat → Prop) (w : World), RX w S A c (stA x) → RS w S B d (stB x) → RS w S E f (stE x) → (∀ b, S b → b < g) → g ≤ w.heap.size →
 Run 114 #[.pointer (some ⟨g, 0, none⟩), smV (stK x) (stN x) (stT x) (stC x) (stI x) (.slice A (stA x).length c) (.slice B (stB x).len d) (.slice E (stE x).len f) p q r] g (txts (toksS x)) w
theorem px0 {x : Ex} (hx : okX x) {A : Option Addr} {c : Nat} {p q r : Int} {g : Nat} {S : Nat → Prop} {w : World} (h : ExAt w S x A c) (hS : ∀ b, S b → b < g) (hg : g ≤ w.heap.size) :
  Run 50 #[.pointer (some ⟨g, 0, none⟩), exX x A c p q r, nv 0] g (txts (toks0 x)) w := by
 have := px_any x hx 0 A c p q r g S w h hS hg
 rw [toksX_no (by omega)] at this
 exact this
theorem pkey0 {x : Ex} (hx : okX x) {A : Option Addr} {c : Nat} {p q r : Int} {g : Nat} {S : Nat → Prop} {w : World} (h : ExAt w S x A c) (hS : ∀ b, S b → b < g) (hg : g ≤ w.heap.size) :
  Run 104 #[.pointer (some ⟨g, 0, none⟩), exX x A c p q r] g ([91] :: (txts (toks0 x) ++ [[93]])) w :=
 key_raw _ _ _ _ _ _ _ _ _ _ _ _ _ g w _ (px0 hx (p := p) (q := q) (r := r) h hS hg)
theorem ps_step (x : St) (hB : PB (stB x)) (hE : PB (stE x)) : PS x := by
 intro ok A c B d E f p q r g S w hA hb he hS hg
 cases x with
 | let_ n e =>
  have ok : isNameL n = true ∧ okX e := by simpa only [okS] using ok
  obtain ⟨A0, c0, p0, q0, r0, u0, v0⟩ := prt_at (i := 0) (g := g) (by simp [stA]) (by simp [stA]) hg hA hS 1 n [] [] 0 (.slice B 0 d) (.slice E 0 f) p q r
  have := slet_raw n [] [] 0 (.slice A 1 c) (.slice B 0 d) (.slice E 0 f) p q r g w _ _ u0 (px0 ok.2 v0 hS hg)
  have e2 : txts (toksS (.let_ n e)) = w_let :: n :: [61] :: (txts (toks0 e) ++ [[59]]) := by
   rw [toksS]; simp [txts, tw, tg]
  rw [e2]
  exact this
 | set n e =>
  have ok : isNameL n = true ∧ okX e := by simpa only [okS] using ok
  obtain ⟨A0, c0, p0, q0, r0, u0, v0⟩ := prt_at (i := 0) (g := g) (by simp [stA]) (by simp [stA]) hg hA hS 2 n [] [] 0 (.slice B 0 d) (.slice E 0 f) p q r
  have := sset_raw n [] [] 0 (.slice A 1 c) (.slice B 0 d) (.slice E 0 f) p q r g w _ _ u0 (px0 ok.2 v0 hS hg)
  have e2 : txts (toksS (.set n e)) = n :: [61] :: (txts (toks0 e) ++ [[59]]) := by
   rw [toksS]; simp [txts, tw, tg]
  rw [e2]
  exact this
 | put t cc k e =>
  have ok : isNameL t = true ∧ isNameL cc = true ∧ okX k ∧ okX e := by simpa only [okS] using ok
  obtain ⟨A0, c0, p0, q0, r0, u0, v0⟩ := prt_at (i := 0) (g := g) (by simp [stA]) (by simp [stA]) hg hA hS 3 [] t cc 0 (.slice B 0 d) (.slice E 0 f) p q r
  obtain ⟨A1, c1, p1, q1, r1, u1, v1⟩ := prt_at (i := 1) (g := g) (by simp [stA]) (by simp [stA]) hg hA hS 3 [] t cc 0 (.slice B 0 d) (.slice E 0 f) p q r
  have := sput_raw [] t cc 0 (.slice A 2 c) (.slice B 0 d) (.slice E 0 f) p q r g w _ _ _ _ u0 (pkey0 ok.2.2.1 v0 hS hg) u1 (px0 ok.2.2.2 v1 hS hg)
  have e : txts (toksS (.put t cc k e)) = t :: (([91] :: (txts (toks0 k) ++ [[93]])) ++ [46] :: cc :: [61] :: (txts (toks0 e) ++ [[59]])) := by
   rw [toksS]; simp [txts, tw, tg]
  rw [e]
  exact this
 | del t k =>
  have ok : isNameL t = true ∧ okX k := by simpa only [okS] using ok
  obtain ⟨A0, c0, p0, q0, r0, u0, v0⟩ := prt_at (i := 0) (g := g) (by simp [stA]) (by simp [stA]) hg hA hS 4 [] t [] 0 (.slice B 0 d) (.slice E 0 f) p q r
  have := sdel_raw [] t [] 0 (.slice A 1 c) (.slice B 0 d) (.slice E 0 f) p q r g w _ _ u0 (pkey0 ok.2 v0 hS hg)
  have e : txts (toksS (.del t k)) = w_del :: t :: (([91] :: (txts (toks0 k) ++ [[93]])) ++ [[59]]) := by
   rw [toksS]; simp [txts, tw, tg]
  rw [e]
  exact this
 | if_ e b els =>
  have ok : okX e ∧ (okB b ∧ b.len ≤ 24) ∧ okB els ∧ els.len ≤ 24 := by simpa only [okS] using ok
  obtain ⟨A0, c0, p0, q0, r0, u0, v0⟩ := prt_at (i := 0) (g := g) (by simp [stA]) (by simp [stA]) hg hA hS 5 [] [] [] 0 (.slice B b.len d) (.slice E els.len f) p q r
  have h1 := hB ok.2.1.1 B d g S w hb hS hg
  have h2 := hE ok.2.2.1 E f g S w he hS hg
  cases els with
  | nil =>
   have := nif0_raw [] [] [] 0 (.slice A 1 c) (.slice B b.len d) p q r g w E f _ _ _ u0 (px0 ok.1 v0 hS hg) h1
   have := snest5_raw [] [] [] 0 (.slice A 1 c) (.slice B b.len d) (.slice E 0 f) p q r g w _ this
   have e : txts (toksS (.if_ e b .nil)) = w_if :: (txts (toks0 e) ++ ([123] :: (txts (toksB b) ++ [[125]]))) := by
    rw [toksS]; simp [txts, tw, tg, elsT]
   rw [e]
   exact this
  | cons s t =>
   have := nif1_raw [] [] [] 0 (.slice A 1 c) (.slice B b.len d) p q r g w E (Sts.cons s t).len f (by rw [Sts.len]; omega) _ _ _ _ u0 (px0 ok.1 v0 hS hg) h1 h2
   have := snest5_raw [] [] [] 0 (.slice A 1 c) (.slice B b.len d) (.slice E (Sts.cons s t).len f) p q r g w _ this
   have e : txts (toksS (.if_ e b (.cons s t))) = w_if :: (txts (toks0 e) ++ (([123] :: (txts (toksB b) ++ [[125]])) ++ w_else :: ([123] :: (txts (toksB (.cons s t)) ++ [[125]])))) := by
    rw [toksS]; simp [txts, tw, tg, elsT]
   rw [e]
   exact this
 | loop n name b =>
  have ok : okNum n ∧ isNameL name = true ∧ okB b ∧ b.len ≤ 24 := by simpa only [okS] using ok
  have h1 := hB ok.2.2.1 B d g S w hb hS hg
  have hn : -9223372036854775808 ≤ n ∧ n ≤ 9223372036854775807 := by have h := ok.1; unfold okNum at h; omega
  have := nloop_raw name [] [] n (.slice A 0 c) (.slice B b.len d) (.slice E 0 f) p q r g w _ (pnum_raw n g w hn.1 hn.2) h1
  have := snest6_raw name [] [] n (.slice A 0 c) (.slice B b.len d) (.slice E 0 f) p q r g w _ this
  have e : txts (toksS (.loop n name b)) = w_loop :: decL n :: name :: ([123] :: (txts (toksB b) ++ [[125]])) := by
   rw [toksS]; simp [txts, tw, tg, tn]
  rw [e]
  exact this
 | each n t lo hi k b =>
  have ok : (isNameL n = true ∧ isNameL t = true) ∧ (okX lo ∧ okX hi) ∧ okNum k ∧ okB b ∧ b.len ≤ 24 := by simpa only [okS] using ok
  have h1 := hB ok.2.2.2.1 B d g S w hb hS hg
  have hn : -9223372036854775808 ≤ k ∧ k ≤ 9223372036854775807 := by have h := ok.2.2.1; unfold okNum at h; omega
  obtain ⟨A0, c0, p0, q0, r0, u0, v0⟩ := prt_at (i := 0) (g := g) (by simp [stA]) (by simp [stA]) hg hA hS 7 n t [] k (.slice B b.len d) (.slice E 0 f) p q r
  obtain ⟨A1, c1, p1, q1, r1, u1, v1⟩ := prt_at (i := 1) (g := g) (by simp [stA]) (by simp [stA]) hg hA hS 7 n t [] k (.slice B b.len d) (.slice E 0 f) p q r
  have := neach_raw n t [] k (.slice A 2 c) (.slice B b.len d) (.slice E 0 f) p q r g w _ _ _ _ _ u0 (px0 ok.2.1.1 v0 hS hg) u1 (px0 ok.2.1.2 v1 hS hg) (pnum_raw k g w hn.1 hn.2) h1
  have := snest7_raw n t [] k (.slice A 2 c) (.slice B b.len d) (.slice E 0 f) p q r g w _ this
  have e : txts (toksS (.each n t lo hi k b)) = w_each :: n :: w_in :: t :: w_from :: (txts (toks0 lo) ++ w_to :: (txts (toks0 hi) ++ w_max :: decL k :: ([123] :: (txts (toksB b) ++ [[125]])))) := by
   rw [toksS]; simp [txts, tw, tg, tn]
  rw [e]
  exact this
 | roll =>
  have := sroll_raw [] [] [] 0 (.slice A 0 c) (.slice B 0 d) (.slice E 0 f) p q r g w
  have e : txts (toksS .roll) = [w_rollback, [59]] := by
   rw [toksS]; simp [txts, tw, tg]
  rw [e]
  exact this
 | emit e =>
  have ok : okX e := by simpa only [okS] using ok
  obtain ⟨A0, c0, p0, q0, r0, u0, v0⟩ := prt_at (i := 0) (g := g) (by simp [stA]) (by simp [stA]) hg hA hS 9 [] [] [] 0 (.slice B 0 d) (.slice E 0 f) p q r
  have := semit_raw [] [] [] 0 (.slice A 1 c) (.slice B 0 d) (.slice E 0 f) p q r g w _ _ u0 (px0 ok v0 hS hg)
  have e : txts (toksS (.emit e)) = w_emit :: (txts (toks0 e) ++ [[59]]) := by
   rw [toksS]; simp [txts, tw, tg]
  rw [e]
  exact this
def toksLp (l : List St) : List Tok := l.flatMap toksS
theorem toksLp_step {l : List St} {k : Nat} (h : k < l.length) : txts (toksLp (l.take (k + 1))) = txts (toksLp (l.take k)) ++ txts (toksS l[k]) := by
 unfold toksLp
 rw [List.take_succ_eq_append_getElem h, List.flatMap_append, txts_app, List.flatMap_cons, List.flatMap_nil, List.append_nil]
theorem toksLp_len (l : List St) (k : Nat) : (txts (toksLp (l.take k))).length ≤ (txts (toksLp l)).length := by
 conv => rhs; rw [← List.take_append_drop k l]
 unfold toksLp
 rw [List.flatMap_append, txts_app, List.length_append]
 omega
theorem pb_step (b : Sts) (ih : ∀ x ∈ b.list, PS x) : PB b := by
 intro ok A c g S w h hS hg
 have hcap := h.cap
 obtain ⟨n, hn⟩ : ∃ n, b.len = n := ⟨_, rfl⟩
 have HN : Hid (b.list.length = n) := Lib.hid (by rw [Sts.list_len]; exact hn)
 rw [hn] at hcap ⊢
 rw [toksB_l]
 have HIH := Lib.hid ih
 have HOK := Lib.hid (okB_l ok)
 have H1 := Lib.hid h
 have HS := Lib.hid hS
 clear hn ih ok h hS
 show Run _ _ _ ([123] :: (txts (toksLp b.list) ++ [[125]])) _
 intro w' L hbw hpr hlim
 have hlt := hpr.lt
 try simp only [List.length_cons, List.length_append, List.length_nil] at hlim
 have HL := Lib.hid hlim
 have HW := Lib.hid hbw
 clear hlim hbw
 have PW := Lib.hid hpr
 have FW : Hid (PF g w' w') := Lib.hid (.refl _ _)
 clear hpr
 go_enter Tryz.func55, Tryz.ntmps55
 go_wp2_with fail
 refine (put_any g _ _ _ [[123]] _ _ (PW.out.next one_new) (Rd.made _ _ rfl (by first | rfl | simp)) (by have := HL.out; simp; omega)).mono ?_; rintro e w2 ⟨rfl, p2, f2⟩
 replace FW := Lib.hid ((FW.out.then one_new).trans f2)
 replace PW := Lib.hid p2
 clear p2 f2
 go_wp2_with fail
 go_loopw [11] (fun i wr => ∃ k : Nat, k ≤ n ∧ i = .int .i64 k ∧ Hid (Pr wr g (L ++ [[123]] ++ txts (toksLp (b.list.take k)))) ∧ Hid (PF g w' wr)) (fun i _ => n - (intOf i).toNat)
 case atStart => exact ⟨0, Nat.zero_le _, rfl, Lib.hid (by simpa [toksLp, txts] using PW.out), FW⟩
 case round =>
  clear PW FW
  obtain ⟨k, hk, rfl, PW, FW⟩ := hrel
  have hbl := HW.out.trans (FW.out.below (Nat.le_of_lt hlt))
  have hlen := toksLp_len b.list k
  by_cases hlt2 : k < n
  ·have hlk : k < b.list.length := by rw [HN.out]; exact hlt2
   have hki : (k : Int) < (n : Int) := by omega
   obtain ⟨b1, off, A1, c1, B1, d1, E1, f1, p1, q1, r1, ⟨rfl, hb1⟩, hc1, ga, gb, ge⟩ := H1.out.at_ HS.out hlk
   have hst := toksLp_step hlk
   have hlen1 := toksLp_len b.list (k + 1)
   rw [hst, List.length_append] at hlen1
   have HST := Lib.hid hst
   have RU := Lib.hid (HIH.out _ (List.getElem_mem hlk) (HOK.out _ (List.getElem_mem hlk)) A1 c1 B1 d1 E1 f1 p1 q1 r1 g S w ga gb ge HS.out hg)
   unfold stV at hc1
   clear hst ga gb ge
   generalize b.list[k] = x at *
   have hbw1 : b1 < wr.heap.size := by have := hbl.size; omega
   have hcell : ∀ j, j < 11 → wr.cell? ⟨b1, off + k * 11 + j, none⟩ = _ := fun j hj => (hbl.cell (p := ⟨b1, off + k * 11 + j, none⟩) hb1).trans (hc1 j hj)
   generalize stK x = xk at *
   generalize stN x = xn at *
   generalize stT x = xt at *
   generalize stC x = xc at *
   generalize stI x = xi at *
   generalize (stA x).length = ma at *
   generalize (stB x).len = mb at *
   generalize (stE x).len = me at *
   have y0 : wr.cell? ⟨b1, off + k * 11, none⟩ = some (nv xk) := hcell 0 (by omega)
   have y1 : wr.cell? ⟨b1, off + k * 11 + 1, none⟩ = some (sv xn) := hcell 1 (by omega)
   have y2 : wr.cell? ⟨b1, off + k * 11 + 2, none⟩ = some (sv xt) := hcell 2 (by omega)
   have y3 : wr.cell? ⟨b1, off + k * 11 + 3, none⟩ = some (sv xc) := hcell 3 (by omega)
   have y4 : wr.cell? ⟨b1, off + k * 11 + 4, none⟩ = some (nv xi) := hcell 4 (by omega)
   have y5 : wr.cell? ⟨b1, off + k * 11 + 5, none⟩ = some (.slice A1 ma c1) := hcell 5 (by omega)
   have y6 : wr.cell? ⟨b1, off + k * 11 + 6, none⟩ = some (.slice B1 mb d1) := hcell 6 (by omega)
   have y7 : wr.cell? ⟨b1, off + k * 11 + 7, none⟩ = some (.slice E1 me f1) := hcell 7 (by omega)
   have y8 : wr.cell? ⟨b1, off + k * 11 + 8, none⟩ = some (nv p1) := hcell 8 (by omega)
   have y9 : wr.cell? ⟨b1, off + k * 11 + 9, none⟩ = some (nv q1) := hcell 9 (by omega)
   have y10 : wr.cell? ⟨b1, off + k * 11 + 10, none⟩ = some (nv r1) := hcell 10 (by omega)
   clear hc1 hcell hbl
   go_upto_region 4 with fail
   have BX : Hid ((wr.alloc (smO xk xn xt xc xi (.slice A1 ma c1) (.slice B1 mb d1) (.slice E1 me f1) p1 q1 r1)).heap[wr.heap.size]? = some (smB xk xn xt xc xi (.slice A1 ma c1) (.slice B1 mb d1) (.slice E1 me f1) p1 q1 r1)) := Lib.hid (alloc_at rfl)
   replace PW := Lib.hid (PW.out.next (one_new (o := smO xk xn xt xc xi (.slice A1 ma c1) (.slice B1 mb d1) (.slice E1 me f1) p1 q1 r1)))
   replace FW := Lib.hid (FW.out.then (one_new (o := smO xk xn xt xc xi (.slice A1 ma c1) (.slice B1 mb d1) (.slice E1 me f1) p1 q1 r1)))
   obtain ⟨w3, hw3⟩ : ∃ W, wr.alloc (smO xk xn xt xc xi (.slice A1 ma c1) (.slice B1 mb d1) (.slice E1 me f1) p1 q1 r1) = W := ⟨_, rfl⟩
   rw [hw3] at BX PW FW ⊢
   clear hw3 y0 y1 y2 y3 y4 y5 y6 y7 y8 y9 y10
   obtain ⟨⟨⟨⟨x0, x1⟩, x2, x3⟩, ⟨x4, x5⟩, x6, x7⟩, ⟨x8, x9⟩, x10⟩ := cells11 BX.out
   go_wp2_with fail
   refine (RU.out _ _ (HW.out.trans (FW.out.below (Nat.le_of_lt hlt))) PW.out (by have := HL.out; simp; omega)).mono ?_; rintro e w4 ⟨rfl, p4, f4⟩
   have FW4 := Lib.hid (FW.out.trans f4)
   have PW4 := Lib.hid p4
   clear p4 f4 x0 x1 x2 x3 x4 x5 x6 x7 x8 x9 x10 BX
   go_wp2_with fail
   go_roundw
   case rel => exact ⟨k + 1, by omega, by go_num, Lib.hid (by rw [HST.out, ← List.append_assoc]; exact PW4.out), FW4⟩
   case measure => simp [intOf]; omega
  ·have hkn : k = n := by omega
   have e : b.list.take k = b.list := by rw [List.take_of_length_le (by rw [HN.out]; omega)]
   rw [e] at PW
   have hki : ¬ (k : Int) < (n : Int) := by omega
   clear e hbl
   go_wp2_with fail
   refine (put_any g _ _ _ [[125]] _ _ (PW.out.next one_new) (Rd.made _ _ rfl (by first | rfl | simp)) (by have := HL.out; simp; omega)).mono ?_; rintro e w5 ⟨rfl, p5, f5⟩
   have FW5 := Lib.hid ((FW.out.then one_new).trans f5)
   have PW5 := Lib.hid p5
   clear p5 f5
   go_wp2_with fail
   first | go_end0 | refine bodyPost_ret (results_none rfl _ _ _) rfl ?_
   exact ⟨rfl, by simpa only [List.append_assoc, List.cons_append, List.nil_append] using PW5.out, FW5.out⟩
theorem pb_any : ∀ b : Sts, PB b :=
 fun b => (Sts.indM (P := fun s => PS s) (Q := fun b => PB b ∧ ∀ x ∈ b.list, PS x) (fun s h1 h2 => ps_step s h1.1 h2.1)
  ⟨pb_step .nil (fun x hx => by cases hx), fun x hx => by cases hx⟩
  (fun s r hs hr => by
   have : ∀ x ∈ (Sts.cons s r).list, PS x := fun x hx => by
    rw [Sts.list] at hx
    rcases List.mem_cons.1 hx with rfl | hx
    ·exact hs
    ·exact hr.2 x hx
   exact ⟨pb_step _ this, this⟩) b).1
end Go.Proofs.YtnbmpfdffoidaaaGreatDoor.Y
namespace Go.Proofs
open Go.Shelf
def Tryz.lays217_ren : Go.Shelf.Ren := ⟨fun | 217 => 157 | 266 => 173 | n => n, fun | 9 => 9 | 5 => 5 | 3 => 3 | n => n, fun | n => n⟩
def Tryz.lays219_ren : Go.Shelf.Ren := ⟨fun | 219 => 134 | 217 => 157 | 225 => 158 | 224 => 159 | 267 => 160 | 266 => 173 | 314 => 174 | n => n, fun | 9 => 9 | 3 => 3 | 4 => 4 | 5 => 5 | 46 => 182 | 146 => 165 | 51 => 164 | n => n, fun | 1 => 0 | n => n⟩
def Tryz.lays143_ren : Go.Shelf.Ren := ⟨fun | 143 => 92 | 219 => 134 | 217 => 157 | 225 => 158 | 224 => 159 | 267 => 160 | 266 => 173 | 314 => 174 | n => n, fun | 9 => 9 | 3 => 3 | 4 => 4 | 5 => 5 | 46 => 182 | 146 => 165 | 51 => 164 | n => n, fun | 1 => 0 | n => n⟩
theorem Tryz.lays143 : Go.Proofs.Lays.n143 Tryz.prog Tryz.lays143_ren := {
 mixed := by kernel_rfl
 f143 := Tryz.func92.trans (congrArg some (by kernel_rfl))
 f217 := Tryz.func157.trans (congrArg some (by kernel_rfl))
 f219 := Tryz.func134.trans (congrArg some (by kernel_rfl))
 f224 := Tryz.func159.trans (congrArg some (by kernel_rfl))
 f225 := Tryz.func158.trans (congrArg some (by kernel_rfl))
 f266 := Tryz.func173.trans (congrArg some (by kernel_rfl))
 f267 := Tryz.func160.trans (congrArg some (by kernel_rfl))
 f314 := Tryz.func174.trans (congrArg some (by kernel_rfl))
 t3 := Tryz.underlying3
 a3 := Tryz.isAgg3
 z3 := Tryz.sizeOf3
 v3 := Tryz.zeroValue3
 t4 := Tryz.underlying4
 a4 := Tryz.isAgg4
 z4 := Tryz.sizeOf4
 v4 := Tryz.zeroValue4
 t5 := Tryz.underlying5
 a5 := Tryz.isAgg5
 z5 := Tryz.sizeOf5
 v5 := Tryz.zeroValue5
 t9 := Tryz.underlying9
 a9 := Tryz.isAgg9
 z9 := Tryz.sizeOf9
 v9 := Tryz.zeroValue9
 t46 := Tryz.underlying182
 a46 := Tryz.isAgg182
 z46 := Tryz.sizeOf182
 v46 := Tryz.zeroValue182
 t51 := Tryz.underlying164
 a51 := Tryz.isAgg164
 z51 := Tryz.sizeOf164
 v51 := Tryz.zeroValue164
 t146 := Tryz.underlying165
 a146 := Tryz.isAgg165
 z146 := Tryz.sizeOf165
 v146 := Tryz.zeroValue165
 g1 := by kernel_rfl }
open Go.RowKit Go.Lib in
theorem Tryz.strings_Index_one (s : ByteArray) (c : UInt8) (w : World) :
  Calls Tryz.prog 92 #[.string s, .string ⟨#[c]⟩] w fun e w' => e = .returned (.int .i64 (Lib.indexByte s.data.toList c)) ∧ w' = w := Any.strings_Index_one Tryz.lays143 s c w
def Tryz.lays221_ren : Go.Shelf.Ren := ⟨fun | 221 => 112 | 268 => 145 | 138 => 43 | 143 => 92 | 195 => 90 | 197 => 170 | 218 => 91 | 219 => 134 | 260 => 178 | 217 => 157 | 225 => 158 | 224 => 159 | 267 => 160 | 266 => 173 | 314 => 174 | n => n, fun | 9 => 9 | 3 => 3 | 31 => 62 | 4 => 4 | 0 => 0 | 105 => 184 | 21 => 21 | 5 => 5 | 46 => 182 | 119 => 187 | 139 => 190 | 138 => 189 | 146 => 165 | 51 => 164 | n => n, fun | 1 => 0 | 3 => 1 | 4 => 2 | n => n⟩
theorem Tryz.lays221 : Go.Proofs.Lays.n221 Tryz.prog Tryz.lays221_ren := {
 mixed := by kernel_rfl
 f138 := Tryz.func43.trans (congrArg some (by kernel_rfl))
 f143 := Tryz.func92.trans (congrArg some (by kernel_rfl))
 f195 := Tryz.func90.trans (congrArg some (by kernel_rfl))
 f197 := Tryz.func170.trans (congrArg some (by kernel_rfl))
 f217 := Tryz.func157.trans (congrArg some (by kernel_rfl))
 f218 := Tryz.func91.trans (congrArg some (by kernel_rfl))
 f219 := Tryz.func134.trans (congrArg some (by kernel_rfl))
 f221 := Tryz.func112.trans (congrArg some (by kernel_rfl))
 f224 := Tryz.func159.trans (congrArg some (by kernel_rfl))
 f225 := Tryz.func158.trans (congrArg some (by kernel_rfl))
 f260 := Tryz.func178.trans (congrArg some (by kernel_rfl))
 f266 := Tryz.func173.trans (congrArg some (by kernel_rfl))
 f267 := Tryz.func160.trans (congrArg some (by kernel_rfl))
 f268 := Tryz.func145.trans (congrArg some (by kernel_rfl))
 f314 := Tryz.func174.trans (congrArg some (by kernel_rfl))
 t0 := Tryz.underlying0
 a0 := Tryz.isAgg0
 z0 := Tryz.sizeOf0
 v0 := Tryz.zeroValue0
 t3 := Tryz.underlying3
 a3 := Tryz.isAgg3
 z3 := Tryz.sizeOf3
 v3 := Tryz.zeroValue3
 t4 := Tryz.underlying4
 a4 := Tryz.isAgg4
 z4 := Tryz.sizeOf4
 v4 := Tryz.zeroValue4
 t5 := Tryz.underlying5
 a5 := Tryz.isAgg5
 z5 := Tryz.sizeOf5
 v5 := Tryz.zeroValue5
 t9 := Tryz.underlying9
 a9 := Tryz.isAgg9
 z9 := Tryz.sizeOf9
 v9 := Tryz.zeroValue9
 t21 := Tryz.underlying21
 a21 := Tryz.isAgg21
 z21 := Tryz.sizeOf21
 v21 := Tryz.zeroValue21
 t31 := Tryz.underlying62
 a31 := Tryz.isAgg62
 z31 := Tryz.sizeOf62
 v31 := Tryz.zeroValue62
 t46 := Tryz.underlying182
 a46 := Tryz.isAgg182
 z46 := Tryz.sizeOf182
 v46 := Tryz.zeroValue182
 t51 := Tryz.underlying164
 a51 := Tryz.isAgg164
 z51 := Tryz.sizeOf164
 v51 := Tryz.zeroValue164
 t105 := Tryz.underlying184
 a105 := Tryz.isAgg184
 z105 := Tryz.sizeOf184
 v105 := Tryz.zeroValue184
 t119 := Tryz.underlying187
 a119 := Tryz.isAgg187
 z119 := Tryz.sizeOf187
 t138 := Tryz.underlying189
 a138 := Tryz.isAgg189
 z138 := Tryz.sizeOf189
 v138 := Tryz.zeroValue189
 t139 := Tryz.underlying190
 a139 := Tryz.isAgg190
 z139 := Tryz.sizeOf190
 v139 := Tryz.zeroValue190
 t146 := Tryz.underlying165
 a146 := Tryz.isAgg165
 z146 := Tryz.sizeOf165
 v146 := Tryz.zeroValue165
 g1 := by kernel_rfl
 g3 := by kernel_rfl
 g4 := by kernel_rfl }
end Go.Proofs
namespace Go.Proofs.YtnbmpfdffoidaaaGreatDoor.Y
open Go.RowKit O V S
theorem yidxB_one (x : ByteArray) (c : UInt8) : Lib.indexB x ⟨#[c]⟩ = Lib.indexByte x.data.toList c := Lib.index_one _ _
theorem ycntB_one (x : ByteArray) (c : UInt8) : Lib.countB x ⟨#[c]⟩ = x.data.toList.count c := Lib.count_one _ _
theorem ysplit_len (c : UInt8) (s : List UInt8) : (Lib.split s [c]).length = s.count c + 1 := by
 have h2 := Lib.splitB_all ⟨#[c]⟩ (Nat.le_refl 1) 0 _ ⟨s.toArray⟩ rfl
 rw [ycntB_one] at h2
 have h3 := Lib.splitB_data ⟨#[c]⟩ 0 (s.count c) ⟨s.toArray⟩
 rw [Lib.split, Lib.count_one]
 have h4 := congrArg List.length h3
 rw [List.length_map, h2] at h4
 exact h4.symm
theorem ysplit_bytes (c : UInt8) (s : List UInt8) : (Lib.splitB ⟨#[c]⟩ 0 (s.count c) ⟨s.toArray⟩).map Value.string = (Lib.split s [c]).map sv := by
 have h3 := Lib.splitB_data ⟨#[c]⟩ 0 (s.count c) ⟨s.toArray⟩
 rw [Lib.split, Lib.count_one]
 have h4 : Lib.splitK [c] 0 (s.count c) s = (Lib.splitB ⟨#[c]⟩ 0 (s.count c) ⟨s.toArray⟩).map (·.data.toList) := h3.symm
 rw [h4, List.map_map]
 exact List.map_congr_left fun x _ => rfl
theorem ygsplit_any (s : List UInt8) (c : UInt8) (w : World) (hs : s.length ≤ 1000000) : Calls Tryz.prog 112 #[.string ⟨s.toArray⟩, .string ⟨#[c]⟩, .int .i64 0, .int .i64 (-1)] w fun e w' => e = .returned (.slice (some ⟨w.heap.size, 0, none⟩) (s.count c + 1) (s.count c + 1)) ∧ w' = w.alloc (.cells ((Lib.split s [c]).map sv).toArray 9) := by
 have hsz : (ByteArray.mk s.toArray).size = s.length := by simp [ByteArray.size]
 have hcl : s.count c ≤ s.length := List.count_le_length
 have h := Any.strings_genSplit_core (P := Tryz.prog) Tryz.lays221 (by kernel_rfl) ⟨s.toArray⟩ ⟨#[c]⟩ 0 (-1) (s.count c + 1) w (by omega) (Nat.le_refl 1) (Nat.zero_le _)
  (fun x cs hx => by rw [yidxB_one]; exact Tryz.strings_Index_one x c _)
  (by rw [ycntB_one]; exact Tryz.strings_Count_one ⟨s.toArray⟩ c w) (by decide) (by decide) (by rw [if_pos (by decide), ycntB_one, hsz]; show ((s.count c + 1 : Nat) : Int) = min ((s.count c : Int) + 1) ((s.length : Int) + 1); omega)
 rw [Nat.add_sub_cancel] at h
 have hl := Lib.splitB_all ⟨#[c]⟩ (Nat.le_refl 1) 0 _ ⟨s.toArray⟩ rfl
 rw [ycntB_one] at hl
 have hl' : (Lib.splitB ⟨#[c]⟩ 0 (s.count c) ⟨s.toArray⟩).length = s.count c + 1 := hl
 rw [hl'] at h
 have hc : Lib.cellsOf (Lib.splitB ⟨#[c]⟩ 0 (s.count c) ⟨s.toArray⟩) (s.count c + 1) = ((Lib.split s [c]).map sv).toArray := by
  have := Lib.cellsOf_full (Lib.splitB ⟨#[c]⟩ 0 (s.count c) ⟨s.toArray⟩)
  rw [hl'] at this
  rw [this, ysplit_bytes]
 rw [hc] at h
 exact h
theorem ysplit_any (s : List UInt8) (c : UInt8) (w : World) (hs : s.length ≤ 1000000) : Calls Tryz.prog 53 #[.string ⟨s.toArray⟩, .string ⟨#[c]⟩] w fun e w' => e = .returned (.slice (some ⟨w.heap.size, 0, none⟩) (s.count c + 1) (s.count c + 1)) ∧ w' = w.alloc (.cells ((Lib.split s [c]).map sv).toArray 9) := by
 go_enter Tryz.func53, Tryz.ntmps53
 go_wp2_with fail
 refine (ygsplit_any s c _ hs).mono ?_; rintro e w1 ⟨rfl, rfl⟩
 go_wp2_with fail
 go_ret
 exact ⟨rfl, rfl⟩
theorem yindex_one {c : UInt8} (r : List UInt8) : ∀ {l : List UInt8}, c ∉ l → Lib.index (l ++ c :: r) [c] = (l.length : Int)
 | [], _ => by simp [Lib.index]
 | b :: l, h => by
  simp only [List.mem_cons, not_or] at h
  have ih := yindex_one r h.2
  have hb : (c == b) = false := by simpa using h.1
  rw [List.cons_append, Lib.index, ih]
  simp [List.isPrefixOf, hb]
  try omega
theorem ysplit_no {c : UInt8} {t : List UInt8} (ht : c ∉ t) : Lib.split t [c] = [t] := by
 unfold Lib.split
 have : Lib.count t [c] = 0 := by rw [Lib.count_one]; exact List.count_eq_zero.2 ht
 rw [this]; simp [Lib.splitK]
theorem ysplit_two {c : UInt8} {l t : List UInt8} (hl : c ∉ l) (ht : c ∉ t) : Lib.split (l ++ c :: t) [c] = [l, t] := by
 have ih := ysplit_no ht
 unfold Lib.split at ih ⊢
 have hc : Lib.count (l ++ c :: t) [c] = Lib.count t [c] + 1 := by
  rw [Lib.count_one, Lib.count_one, List.count_append, List.count_eq_zero.2 hl, List.count_cons_self]; omega
 have hi : (Lib.index (l ++ c :: t) [c] == -1) = false := by rw [yindex_one _ hl, beq_eq_false_iff_ne]; omega
 rw [hc, Lib.splitK, hi, yindex_one _ hl]
 simp only [Bool.false_eq_true, if_false, Int.toNat_natCast, Nat.add_zero, List.length_singleton]
 rw [List.take_left' rfl, show l ++ c :: t = (l ++ [c]) ++ t by simp, List.drop_left' (by simp), ih]
end Go.Proofs.YtnbmpfdffoidaaaGreatDoor.Y
