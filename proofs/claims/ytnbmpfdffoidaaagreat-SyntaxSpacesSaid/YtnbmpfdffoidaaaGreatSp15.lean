/- Texts of the proof, joined: SynSame, SynRp2, SynRp3, SynCat, SynSameB. -/
import Derived.Test.YtnbmpfdffoidaaaGreatSp06
import Derived.Test.YtnbmpfdffoidaaaGreatSp13
import Derived.Test.YtnbmpfdffoidaaaGreatSp14
set_option linter.unusedVariables false
set_option linter.unusedSimpArgs false
set_option maxHeartbeats 8000000
set_option maxRecDepth 100000
namespace Go.Proofs.YtnbmpfdffoidaaaGreat.Y
open Go.RowKit O V S X
theorem ex_ext {x y : Ex} : x = y ↔ ((hdK x = hdK y ∧ hdV x = hdV y) ∧ (hdN x = hdN y ∧ hdC x = hdC y) ∧ hdO x = hdO y) ∧ parts x = parts y := by
 cases x <;> cases y <;> simp [hdK, hdV, hdN, hdC, hdO, parts] <;> grind
def RX (w : World) (S : Nat → Prop) (A : Option Addr) (c : Nat) (l : List Ex) : Prop := ∃ es, Row w S 11 A l.length c es ∧ Reps (ExR w S) l es
theorem RX.keep {w w' : World} {S : Nat → Prop} {A : Option Addr} {c : Nat} {l : List Ex} (h : RX w S A c l) (hk : ∀ b, S b → w'.heap[b]? = w.heap[b]?) : RX w' S A c l := by
 obtain ⟨es, h1, h2⟩ := h
 exact ⟨es, h1.keep hk, h2.imp fun y us => ExR.keep hk y us⟩
theorem RX.at_ {w : World} {S : Nat → Prop} {l : List Ex} {A : Option Addr} {c : Nat} (h : RX w S A c l) {B : Nat} (hS : ∀ b, S b → b < B) {i : Nat} (hi : i < l.length) :
  ∃ b off A' c' p q r, A = some ⟨b, off, none⟩ ∧ b < B ∧ (∀ j, j < 11 → w.cell? ⟨b, off + i * 11 + j, none⟩ = (exC l[i] (.slice A' (parts l[i]).length c') p q r)[j]?) ∧ RX w S A' c' (parts l[i]) := by
 obtain ⟨es, h1, h2⟩ := h
 obtain ⟨b, off, vs, e, hb, hr, hc⟩ := (h1.rd hS).elem ExR.size h2 hi (by omega)
 obtain ⟨A', c', p, q, r, rfl, h3⟩ := ExAt.of hr
 exact ⟨b, off, A', c', p, q, r, e, hb, hc, h3.ex⟩
theorem take_same {α : Type} {l m : List α} {k : Nat} (h : k < l.length) (h' : k < m.length) (e : l.take k = m.take k) (he : l[k] = m[k]) : l.take (k + 1) = m.take (k + 1) := by
 rw [List.take_succ_eq_append_getElem h, List.take_succ_eq_append_getElem h', e, he]
theorem ne_at {α : Type} {l m : List α} {k : Nat} (h : k < l.length) (h' : k < m.length) (he : l[k] ≠ m[k]) : l ≠ m := fun e => he (by subst e; rfl)
def RetQ (P : Prop) (e : Ending) : Prop := ∃ b : Bool, e = .returned (.bool b) ∧ (b = true ↔ P)
def SameR (l : List Ex) : Prop := ∀ (m : List Ex) (A B : Option Addr) (c c' : Nat) (S S' : Nat → Prop) (w : World), RX w S A c l → RX w S' B c' m → (∀ b, S b → b < w.heap.size) → (∀ b, S' b → b < w.heap.size) → l.length ≤ 1000000 → m.length ≤ 1000000 →
 Calls Tryz.prog 12 #[.slice A l.length c, .slice B m.length c', .bool false] w fun e w' => RetQ (l = m) e ∧ Below w.heap.size w w'
theorem same_step (l : List Ex) (ih : ∀ x ∈ l, SameR (parts x)) : SameR l := by
 intro m A B c c' S S' w h1 h2 hS hS' hl hm
 have HIH := Lib.hid ih
 clear ih
 by_cases hne : l.length = m.length
 ·obtain ⟨n, hn⟩ : ∃ n, l.length = n := ⟨_, rfl⟩
  have hn2 : m.length = n := by omega
  have HN := Lib.hid hn
  have HN2 := Lib.hid hn2
  rw [hn, hn2]
  rw [hn] at hl
  clear hn hn2 hm hne
  have H1 := Lib.hid h1
  have H2 := Lib.hid h2
  have HS := Lib.hid hS
  have HS' := Lib.hid hS'
  clear h1 h2 hS hS'
  go_enter Tryz.func12, Tryz.ntmps12
  go_wp2_with fail
  go_loopw [6, 17] (fun _ i wr => ∃ k : Nat, k ≤ n ∧ i = .int .i64 k ∧ Hid (l.take k = m.take k) ∧ Below w.heap.size w wr) (fun _ i _ => n - (intOf i).toNat)
  case atStart => exact ⟨0, by omega, rfl, Lib.hid (by simp), Below.refl _ _⟩
  case round =>
   obtain ⟨k, hk, rfl, H, hb⟩ := hrel
   by_cases hlt : k < n
   ·have hlt' : k < l.length := by rw [HN.out]; exact hlt
    have hlt2 : k < m.length := by rw [HN2.out]; exact hlt
    have hki : (k : Int) < (n : Int) := by omega
    obtain ⟨b1, off1, A1, c1, p1, q1, r1, rfl, hb1, hc1, g1⟩ := (H1.out.keep (w' := wr) fun b hB => hb.block b (HS.out b hB)).at_ HS.out hlt'
    obtain ⟨b2, off2, A2, c2, p2, q2, r2, rfl, hb2, hc2, g2⟩ := (H2.out.keep (w' := wr) fun b hB => hb.block b (HS'.out b hB)).at_ HS'.out hlt2
    have hst := Lib.hid (take_same hlt' hlt2 H.out)
    have hno := Lib.hid (ne_at hlt' hlt2)
    have hih := Lib.hid (HIH.out _ (List.getElem_mem hlt'))
    have G1 := Lib.hid g1
    have G2 := Lib.hid g2
    have hL1 := parts_len l[k]
    have hL2 := parts_len m[k]
    have hx := Lib.hid (ex_ext (x := l[k]) (y := m[k]))
    clear g1 g2
    have hz := hb.size
    have hbw1 : b1 < wr.heap.size := by omega
    have hbw2 : b2 < wr.heap.size := by omega
    generalize l[k] = x at *
    generalize m[k] = y at *
    have HNO : Hid (¬ (((hdK x = hdK y ∧ hdV x = hdV y) ∧ (hdN x = hdN y ∧ hdC x = hdC y) ∧ hdO x = hdO y) ∧ parts x = parts y) → l ≠ m) := Lib.hid fun h => hno.out fun e => h (hx.out.1 e)
    have HYES : Hid (((hdK x = hdK y ∧ hdV x = hdV y) ∧ (hdN x = hdN y ∧ hdC x = hdC y) ∧ hdO x = hdO y) ∧ parts x = parts y → l.take (k + 1) = m.take (k + 1)) := Lib.hid fun h => hst.out (hx.out.2 h)
    clear hno hst hx
    unfold exC at hc1 hc2
    generalize hdK x = xk at *
    generalize hdV x = xv at *
    generalize hdN x = xn at *
    generalize hdC x = xc at *
    generalize hdO x = xo at *
    generalize hdK y = yk at *
    generalize hdV y = yv at *
    generalize hdN y = yn at *
    generalize hdC y = yc at *
    generalize hdO y = yo at *
    generalize parts x = xl at *
    generalize parts y = yl at *
    have xy0 : wr.cell? ⟨b1, off1 + k * 11, none⟩ = some (nv xk) := hc1 0 (by omega)
    have xy1 : wr.cell? ⟨b1, off1 + k * 11 + 1, none⟩ = some (nv xv.k) := hc1 1 (by omega)
    have xy2 : wr.cell? ⟨b1, off1 + k * 11 + 2, none⟩ = some (nv xv.n) := hc1 2 (by omega)
    have xy3 : wr.cell? ⟨b1, off1 + k * 11 + 3, none⟩ = some (sv xv.s) := hc1 3 (by omega)
    have xy4 : wr.cell? ⟨b1, off1 + k * 11 + 4, none⟩ = some (sv xn) := hc1 4 (by omega)
    have xy5 : wr.cell? ⟨b1, off1 + k * 11 + 5, none⟩ = some (sv xc) := hc1 5 (by omega)
    have xy6 : wr.cell? ⟨b1, off1 + k * 11 + 6, none⟩ = some (nv (xo : Nat)) := hc1 6 (by omega)
    have xy7 : wr.cell? ⟨b1, off1 + k * 11 + 7, none⟩ = some (.slice A1 xl.length c1) := hc1 7 (by omega)
    have xy8 : wr.cell? ⟨b1, off1 + k * 11 + 8, none⟩ = some (nv p1) := hc1 8 (by omega)
    have xy9 : wr.cell? ⟨b1, off1 + k * 11 + 9, none⟩ = some (nv q1) := hc1 9 (by omega)
    have xy10 : wr.cell? ⟨b1, off1 + k * 11 + 10, none⟩ = some (nv r1) := hc1 10 (by omega)
    have yy0 : wr.cell? ⟨b2, off2 + k * 11, none⟩ = some (nv yk) := hc2 0 (by omega)
    have yy1 : wr.cell? ⟨b2, off2 + k * 11 + 1, none⟩ = some (nv yv.k) := hc2 1 (by omega)
    have yy2 : wr.cell? ⟨b2, off2 + k * 11 + 2, none⟩ = some (nv yv.n) := hc2 2 (by omega)
    have yy3 : wr.cell? ⟨b2, off2 + k * 11 + 3, none⟩ = some (sv yv.s) := hc2 3 (by omega)
    have yy4 : wr.cell? ⟨b2, off2 + k * 11 + 4, none⟩ = some (sv yn) := hc2 4 (by omega)
    have yy5 : wr.cell? ⟨b2, off2 + k * 11 + 5, none⟩ = some (sv yc) := hc2 5 (by omega)
    have yy6 : wr.cell? ⟨b2, off2 + k * 11 + 6, none⟩ = some (nv (yo : Nat)) := hc2 6 (by omega)
    have yy7 : wr.cell? ⟨b2, off2 + k * 11 + 7, none⟩ = some (.slice A2 yl.length c2) := hc2 7 (by omega)
    have yy8 : wr.cell? ⟨b2, off2 + k * 11 + 8, none⟩ = some (nv p2) := hc2 8 (by omega)
    have yy9 : wr.cell? ⟨b2, off2 + k * 11 + 9, none⟩ = some (nv q2) := hc2 9 (by omega)
    have yy10 : wr.cell? ⟨b2, off2 + k * 11 + 10, none⟩ = some (nv r2) := hc2 10 (by omega)
    clear hc1 hc2 H
    by_cases e0 : xk = yk
    ·subst e0
     by_cases e1 : xv = yv
     ·subst e1
      have s1 := fun w => vneq_no xv w
      by_cases e2 : xn = yn
      ·subst e2
       have s2 := fun w => sneq_no xn w
       by_cases e3 : xc = yc
       ·subst e3
        have s3 := fun w => sneq_no xc w
        by_cases e4 : xo = yo
        ·subst e4
         go_wp2_with fail
         refine (hih.out yl A1 A2 c1 c2 S S' _ (G1.out.keep fun b hB => ?_) (G2.out.keep fun b hB => ?_) (fun b hB => ?_) (fun b hB => ?_) (by omega) (by omega)).mono ?_
         ·exact ((Below.refl wr.heap.size wr).alloc (Nat.le_refl _) _ |>.alloc (by simp) _).block b (by have := HS.out b hB; omega)
         ·exact ((Below.refl wr.heap.size wr).alloc (Nat.le_refl _) _ |>.alloc (by simp) _).block b (by have := HS'.out b hB; omega)
         ·have := HS.out b hB; simp; omega
         ·have := HS'.out b hB; simp; omega
         rintro e w5 ⟨⟨bb, rfl, hbb⟩, b5⟩
         have HBB := Lib.hid hbb
         clear hbb
         have B5 : Below w.heap.size w w5 := bthen (by repeat (first | (with_reducible exact hb) | refine Below.alloc ?_ (by first | omega | (simp <;> omega)) _)) b5
         cases bb with
         | false =>
          go_wp2_with fail
          go_ret
          refine ⟨⟨false, rfl, ?_⟩, B5⟩
          have := HNO.out (by simpa using HBB.out)
          simp [this]
         | true =>
          go_wp2_with fail
          go_roundw
          case rel => exact ⟨k + 1, by omega, by go_num, Lib.hid (HYES.out (by simpa using HBB.out)), B5⟩
          case measure => simp [intOf]; omega
        ·have d4 : ((xo : Int) != (yo : Int)) = true := by simp; omega
         go_wp2_with fail
         go_ret
         refine ⟨⟨false, rfl, ?_⟩, ?_⟩
         ·have := HNO.out (fun h => e4 h.1.2.2)
          simp [this]
         ·repeat (first | (with_reducible exact hb) | refine Below.alloc ?_ (by first | omega | (simp <;> omega)) _)
       ·have s3 := fun w => sneq_yes e3 w
        go_wp2_with fail
        go_ret
        refine ⟨⟨false, rfl, ?_⟩, ?_⟩
        ·have := HNO.out (fun h => e3 h.1.2.1.2)
         simp [this]
        ·repeat (first | (with_reducible exact hb) | refine Below.alloc ?_ (by first | omega | (simp <;> omega)) _)
      ·have s2 := fun w => sneq_yes e2 w
       go_wp2_with fail
       go_ret
       refine ⟨⟨false, rfl, ?_⟩, ?_⟩
       ·have := HNO.out (fun h => e2 h.1.2.1.1)
        simp [this]
       ·repeat (first | (with_reducible exact hb) | refine Below.alloc ?_ (by first | omega | (simp <;> omega)) _)
     ·have s1 := fun w => vneq_yes e1 w
      go_wp2_with fail
      go_ret
      refine ⟨⟨false, rfl, ?_⟩, ?_⟩
      ·have := HNO.out (fun h => e1 h.1.1.2)
       simp [this]
      ·repeat (first | (with_reducible exact hb) | refine Below.alloc ?_ (by first | omega | (simp <;> omega)) _)
    ·have d0 : (xk != yk) = true := by simpa using e0
     go_wp2_with fail
     go_ret
     refine ⟨⟨false, rfl, ?_⟩, ?_⟩
     ·have := HNO.out (fun h => e0 h.1.1.1)
      simp [this]
     ·repeat (first | (with_reducible exact hb) | refine Below.alloc ?_ (by first | omega | (simp <;> omega)) _)
   ·obtain rfl : k = n := by omega
    have hall : l = m := by
     have := H.out
     rwa [List.take_of_length_le (by rw [HN.out]; exact Nat.le_refl _), List.take_of_length_le (by rw [HN2.out]; exact Nat.le_refl _)] at this
    go_wp2_with fail
    go_ret
    exact ⟨⟨true, rfl, by simp [hall]⟩, hb⟩
 ·have hr : Hid (l ≠ m) := Lib.hid (fun e => hne (by rw [e]))
  have d1 : ((l.length : Int) != (m.length : Int)) = true := by simp; omega
  clear h1 h2
  go_enter Tryz.func12, Tryz.ntmps12
  go_wp2_with fail
  go_ret
  exact ⟨⟨false, rfl, by simp [hr.out]⟩, Below.refl _ _⟩
theorem sameR_parts : ∀ x : Ex, SameR (parts x) := Ex.ind fun x ih => same_step _ ih
theorem sameR_any (l : List Ex) : SameR l := same_step l fun x _ => sameR_parts x
end Go.Proofs.YtnbmpfdffoidaaaGreat.Y
namespace Go.Proofs.YtnbmpfdffoidaaaGreat.Y
open Go.RowKit O V S X
def aT (l : List Ex) : List UInt8 := l.flatMap fun y => [44, 32] ++ sp (toks0 y)
theorem aT_snoc (l : List Ex) (y : Ex) : aT (l ++ [y]) = aT l ++ ([44, 32] ++ sp (toks0 y)) := by unfold aT; rw [List.flatMap_append]; simp
theorem aT_len_le (l : List Ex) (k : Nat) : (aT (l.take k)).length ≤ (aT l).length := by
 conv => rhs; rw [← List.take_append_drop k l]
 unfold aT
 rw [List.flatMap_append, List.length_append]
 omega
theorem aT_take_le {l : List Ex} {k : Nat} (h : k < l.length) : (aT (l.take k)).length + 2 + (sp (toks0 l[k])).length ≤ (aT l).length := by
 have := aT_len_le l (k + 1)
 rw [List.take_succ_eq_append_getElem h, aT_snoc, List.length_append, List.length_append] at this
 simp only [List.length_cons, List.length_nil] at this
 omega
def RPX (x : Ex) (least : Nat) : Prop := (sp (toksX x least)).length ≤ 100000000 → ∀ (A : Option Addr) (c : Nat) (p q r : Int) (S : Nat → Prop) (w : World), ExAt w S x A c → (∀ b, S b → b < w.heap.size) →
 RunE 14 #[exX x A c p q r, nv least] (sp (toksX x least)) w
section
variable (vk vn : Int) (vs nm cc : List UInt8) (o : Int) (A : Option Addr) (c : Nat) (p q r : Int) (w : World) (l : List Ex) (S : Nat → Prop)
theorem rq4 (hn2 : l.length ≤ 2) (hx : RX w S A c l) (hS : ∀ b, S b → b < w.heap.size) (ih : ∀ y ∈ l, RPX y 0) (least : Nat) (hl : least ≤ 7)   (hlen1 : (aT l).length ≤ 100000000) (hlim : nm.length + cc.length + (aT l).length + 20 ≤ 100000100) : RunE 14 #[exVal 4 vk vn vs nm cc o (.slice A l.length c) p q r, nv least] (w_has ++ [32, 40, 32] ++ nm ++ [32] ++ aT l ++ [41, 32]) w := by
 intro w' hbw
 have HW := Lib.hid hbw
 clear hbw
 have dl : ¬ (7 : Int) < (least : Int) := by omega
 obtain ⟨n, hn⟩ : ∃ n, l.length = n := ⟨_, rfl⟩
 rw [hn] at hn2 ⊢
 have HX := Lib.hid hx
 have HS := Lib.hid hS
 have HI := Lib.hid ih
 have HN := Lib.hid hn
 clear hx hS ih hn
 have hnm : nm.length ≤ 100000100 := by omega
 have hcm : cc.length ≤ 100000100 := by omega
 go_enter Tryz.func14, Tryz.ntmps14
 go_upto_region 1 with fail
 have BX : Hid ((w'.alloc (exO 4 vk vn vs nm cc o (.slice A n c) p q r)).heap[w'.heap.size]? = some (exB 4 vk vn vs nm cc o (.slice A n c) p q r)) := Lib.hid (alloc_at rfl)
 have FW : Hid (Below w'.heap.size w' (w'.alloc (exO 4 vk vn vs nm cc o (.slice A n c) p q r))) := Lib.hid one_new
 obtain ⟨w1, hw1⟩ : ∃ W, w'.alloc (exO 4 vk vn vs nm cc o (.slice A n c) p q r) = W := ⟨_, rfl⟩
 rw [hw1] at BX FW ⊢
 clear hw1
 obtain ⟨⟨⟨⟨x0, x1⟩, x2, x3⟩, ⟨x4, x5⟩, x6, x7⟩, ⟨x8, x9⟩, x10⟩ := cells11 BX.out
 have hlt1 : w'.heap.size < w1.heap.size := (Array.getElem?_eq_some_iff.1 BX.out).1
 go_wp2_with fail
 go_region
 go_wp2_with fail
 have hs : ByteArray.mk #[104, 97, 115] ++ ByteArray.mk #[32, 40, 32] ++ ByteArray.mk nm.toArray ++ ByteArray.mk #[32] = ByteArray.mk (w_has ++ [32, 40, 32] ++ nm ++ [32]).toArray := by
  show ByteArray.mk w_has.toArray ++ ByteArray.mk [32, 40, 32].toArray ++ ByteArray.mk nm.toArray ++ ByteArray.mk [32].toArray = _
  rw [ba_append, ba_append, ba_append]
 obtain ⟨F, hF⟩ : ∃ Z : List UInt8, w_has ++ [32, 40, 32] ++ nm ++ [32] = Z := ⟨_, rfl⟩
 have hFl : F.length + (aT l).length + 2 ≤ 100000100 := by rw [← hF]; have := hlim; simp [w_has, w_sum, w_count] at this ⊢; omega
 rw [hs, hF]
 clear hs
 have HF := Lib.hid hF
 clear hF hlim
 clear x0 x1 x2 x3 x4 x5 x6 x7 x8 x9 x10
 obtain ⟨w3, hw3⟩ : ∃ W, (w1.alloc (Obj.cells #[.string ⟨#[104, 97, 115]⟩, .string ⟨#[115, 117, 109]⟩, .string ⟨#[99, 111, 117, 110, 116]⟩] 9)).drew = W := ⟨_, rfl⟩
 have F3 : Hid (Below w'.heap.size w' w3) := Lib.hid (bthen FW.out (by rw [← hw3]; exact ((Below.refl _ _).alloc (Nat.le_refl _) _).drew))
 rw [hw3]
 clear hw3 FW BX hlt1
 go_loopw [6, 80] (fun s i wr => ∃ k : Nat, k ≤ n ∧ i = .int .i64 k ∧ s = sv (F ++ aT (l.take k)) ∧ Below w'.heap.size w' wr) (fun _ i _ => n - (intOf i).toNat)
 case atStart => exact ⟨0, Nat.zero_le _, rfl, by rw [List.take_zero]; show _ = sv (F ++ []); rw [List.append_nil], F3.out⟩
 case round =>
  obtain ⟨k, hk, rfl, rfl, hb⟩ := hrel
  by_cases hlk : k < n
  ·have hlk' : k < l.length := by rw [HN.out]; exact hlk
   have hbw := bthen HW.out hb
   have HB := Lib.hid hbw
   obtain ⟨b, off, A', c', p', q', r', rfl, hb1, hc, h3⟩ := (HX.out.keep (w' := wr) fun b hB => hbw.block b (HS.out b hB)).at_ HS.out hlk'
   have hle := aT_take_le hlk'
   have hsn : aT (l.take (k + 1)) = aT (l.take k) ++ ([44, 32] ++ sp (toks0 l[k])) := by rw [List.take_succ_eq_append_getElem hlk', aT_snoc]
   have hpx := HI.out l[k] (List.getElem_mem hlk')
   have HSN := Lib.hid hsn
   have HLE := Lib.hid hle
   have H3 : Hid (ExAt wr S l[k] A' c') := Lib.hid ⟨h3⟩
   have HPX := Lib.hid hpx
   clear hsn hle h3 hpx
   generalize l[k] = y at *
   have y0 : wr.cell? ⟨b, off + k * 11, none⟩ = some (nv (hdK y)) := hc 0 (by omega)
   have y1 : wr.cell? ⟨b, off + k * 11 + 1, none⟩ = some (nv (hdV y).k) := hc 1 (by omega)
   have y2 : wr.cell? ⟨b, off + k * 11 + 2, none⟩ = some (nv (hdV y).n) := hc 2 (by omega)
   have y3 : wr.cell? ⟨b, off + k * 11 + 3, none⟩ = some (sv (hdV y).s) := hc 3 (by omega)
   have y4 : wr.cell? ⟨b, off + k * 11 + 4, none⟩ = some (sv (hdN y)) := hc 4 (by omega)
   have y5 : wr.cell? ⟨b, off + k * 11 + 5, none⟩ = some (sv (hdC y)) := hc 5 (by omega)
   have y6 : wr.cell? ⟨b, off + k * 11 + 6, none⟩ = some (nv (hdO y : Nat)) := hc 6 (by omega)
   have y7 : wr.cell? ⟨b, off + k * 11 + 7, none⟩ = some (.slice A' (parts y).length c') := hc 7 (by omega)
   have y8 : wr.cell? ⟨b, off + k * 11 + 8, none⟩ = some (nv p') := hc 8 (by omega)
   have y9 : wr.cell? ⟨b, off + k * 11 + 9, none⟩ = some (nv q') := hc 9 (by omega)
   have y10 : wr.cell? ⟨b, off + k * 11 + 10, none⟩ = some (nv r') := hc 10 (by omega)
   clear hc
   have hki : (k : Int) < (n : Int) := by omega
   have hz := hbw.size
   have hbr : b < wr.heap.size := by omega
   have e0 : toksX y 0 = toks0 y := toksX_no (by omega)
   have hspl : (sp (toks0 y)).length ≤ 100000000 := by have := HLE.out; omega
   have hFk : (F ++ aT (l.take k)).length ≤ 100000200 := by have := HLE.out; simp; omega
   go_wp2_with fail
   refine (HPX.out (by rw [e0]; exact hspl) A' c' p' q' r' S _ (H3.out.keep (fun b hB => one_new.block b (by have := HS.out b hB; omega))) (fun b hB => by have := HS.out b hB; simp; omega) _ (Below.refl _ _)).mono ?_; rintro e w6 ⟨rfl, b6⟩
   rw [e0]
   go_wp2_with fail
   ·exfalso
    rename_i hbig
    simp at hbig hFk
    omega
   go_roundw
   case rel =>
    refine ⟨k + 1, by omega, by go_num, ?_, hb.trans ((bthen one_new b6).mono hb.size)⟩
    rw [HSN.out]
    show Value.string (ByteArray.mk (F ++ aT (l.take k)).toArray ++ (ByteArray.mk [44, 32].toArray ++ ByteArray.mk (sp (toks0 y)).toArray)) = _
    rw [ba_append, ba_append, List.append_assoc]
   case measure => simp [intOf]; omega
  ·obtain rfl : k = n := by omega
   have hall : l.take k = l := List.take_of_length_le (by rw [HN.out]; exact Nat.le_refl _)
   rw [hall]
   have hFl' : (F ++ aT l).length ≤ 100000200 := by simp; omega
   go_wp2_with fail
   go_ret
   refine ⟨?_, hb⟩
   show Ending.returned (.string (ByteArray.mk (F ++ aT l).toArray ++ ByteArray.mk [41, 32].toArray)) = _
   rw [ba_append, ← HF.out]
   try simp
theorem rq6 (hn2 : l.length ≤ 2) (hx : RX w S A c l) (hS : ∀ b, S b → b < w.heap.size) (ih : ∀ y ∈ l, RPX y 0) (least : Nat) (hl : least ≤ 7)   (hlen1 : (aT l).length ≤ 100000000) (hlim : nm.length + cc.length + (aT l).length + 20 ≤ 100000100) : RunE 14 #[exVal 6 vk vn vs nm cc o (.slice A l.length c) p q r, nv least] (w_count ++ [32, 40, 32] ++ nm ++ [32] ++ aT l ++ [41, 32]) w := by
 intro w' hbw
 have HW := Lib.hid hbw
 clear hbw
 have dl : ¬ (7 : Int) < (least : Int) := by omega
 obtain ⟨n, hn⟩ : ∃ n, l.length = n := ⟨_, rfl⟩
 rw [hn] at hn2 ⊢
 have HX := Lib.hid hx
 have HS := Lib.hid hS
 have HI := Lib.hid ih
 have HN := Lib.hid hn
 clear hx hS ih hn
 have hnm : nm.length ≤ 100000100 := by omega
 have hcm : cc.length ≤ 100000100 := by omega
 go_enter Tryz.func14, Tryz.ntmps14
 go_upto_region 1 with fail
 have BX : Hid ((w'.alloc (exO 6 vk vn vs nm cc o (.slice A n c) p q r)).heap[w'.heap.size]? = some (exB 6 vk vn vs nm cc o (.slice A n c) p q r)) := Lib.hid (alloc_at rfl)
 have FW : Hid (Below w'.heap.size w' (w'.alloc (exO 6 vk vn vs nm cc o (.slice A n c) p q r))) := Lib.hid one_new
 obtain ⟨w1, hw1⟩ : ∃ W, w'.alloc (exO 6 vk vn vs nm cc o (.slice A n c) p q r) = W := ⟨_, rfl⟩
 rw [hw1] at BX FW ⊢
 clear hw1
 obtain ⟨⟨⟨⟨x0, x1⟩, x2, x3⟩, ⟨x4, x5⟩, x6, x7⟩, ⟨x8, x9⟩, x10⟩ := cells11 BX.out
 have hlt1 : w'.heap.size < w1.heap.size := (Array.getElem?_eq_some_iff.1 BX.out).1
 go_wp2_with fail
 go_region
 go_wp2_with fail
 have hs : ByteArray.mk #[99, 111, 117, 110, 116] ++ ByteArray.mk #[32, 40, 32] ++ ByteArray.mk nm.toArray ++ ByteArray.mk #[32] = ByteArray.mk (w_count ++ [32, 40, 32] ++ nm ++ [32]).toArray := by
  show ByteArray.mk w_count.toArray ++ ByteArray.mk [32, 40, 32].toArray ++ ByteArray.mk nm.toArray ++ ByteArray.mk [32].toArray = _
  rw [ba_append, ba_append, ba_append]
 obtain ⟨F, hF⟩ : ∃ Z : List UInt8, w_count ++ [32, 40, 32] ++ nm ++ [32] = Z := ⟨_, rfl⟩
 have hFl : F.length + (aT l).length + 2 ≤ 100000100 := by rw [← hF]; have := hlim; simp [w_has, w_sum, w_count] at this ⊢; omega
 rw [hs, hF]
 clear hs
 have HF := Lib.hid hF
 clear hF hlim
 clear x0 x1 x2 x3 x4 x5 x6 x7 x8 x9 x10
 obtain ⟨w3, hw3⟩ : ∃ W, (w1.alloc (Obj.cells #[.string ⟨#[104, 97, 115]⟩, .string ⟨#[115, 117, 109]⟩, .string ⟨#[99, 111, 117, 110, 116]⟩] 9)).drew = W := ⟨_, rfl⟩
 have F3 : Hid (Below w'.heap.size w' w3) := Lib.hid (bthen FW.out (by rw [← hw3]; exact ((Below.refl _ _).alloc (Nat.le_refl _) _).drew))
 rw [hw3]
 clear hw3 FW BX hlt1
 go_loopw [6, 80] (fun s i wr => ∃ k : Nat, k ≤ n ∧ i = .int .i64 k ∧ s = sv (F ++ aT (l.take k)) ∧ Below w'.heap.size w' wr) (fun _ i _ => n - (intOf i).toNat)
 case atStart => exact ⟨0, Nat.zero_le _, rfl, by rw [List.take_zero]; show _ = sv (F ++ []); rw [List.append_nil], F3.out⟩
 case round =>
  obtain ⟨k, hk, rfl, rfl, hb⟩ := hrel
  by_cases hlk : k < n
  ·have hlk' : k < l.length := by rw [HN.out]; exact hlk
   have hbw := bthen HW.out hb
   have HB := Lib.hid hbw
   obtain ⟨b, off, A', c', p', q', r', rfl, hb1, hc, h3⟩ := (HX.out.keep (w' := wr) fun b hB => hbw.block b (HS.out b hB)).at_ HS.out hlk'
   have hle := aT_take_le hlk'
   have hsn : aT (l.take (k + 1)) = aT (l.take k) ++ ([44, 32] ++ sp (toks0 l[k])) := by rw [List.take_succ_eq_append_getElem hlk', aT_snoc]
   have hpx := HI.out l[k] (List.getElem_mem hlk')
   have HSN := Lib.hid hsn
   have HLE := Lib.hid hle
   have H3 : Hid (ExAt wr S l[k] A' c') := Lib.hid ⟨h3⟩
   have HPX := Lib.hid hpx
   clear hsn hle h3 hpx
   generalize l[k] = y at *
   have y0 : wr.cell? ⟨b, off + k * 11, none⟩ = some (nv (hdK y)) := hc 0 (by omega)
   have y1 : wr.cell? ⟨b, off + k * 11 + 1, none⟩ = some (nv (hdV y).k) := hc 1 (by omega)
   have y2 : wr.cell? ⟨b, off + k * 11 + 2, none⟩ = some (nv (hdV y).n) := hc 2 (by omega)
   have y3 : wr.cell? ⟨b, off + k * 11 + 3, none⟩ = some (sv (hdV y).s) := hc 3 (by omega)
   have y4 : wr.cell? ⟨b, off + k * 11 + 4, none⟩ = some (sv (hdN y)) := hc 4 (by omega)
   have y5 : wr.cell? ⟨b, off + k * 11 + 5, none⟩ = some (sv (hdC y)) := hc 5 (by omega)
   have y6 : wr.cell? ⟨b, off + k * 11 + 6, none⟩ = some (nv (hdO y : Nat)) := hc 6 (by omega)
   have y7 : wr.cell? ⟨b, off + k * 11 + 7, none⟩ = some (.slice A' (parts y).length c') := hc 7 (by omega)
   have y8 : wr.cell? ⟨b, off + k * 11 + 8, none⟩ = some (nv p') := hc 8 (by omega)
   have y9 : wr.cell? ⟨b, off + k * 11 + 9, none⟩ = some (nv q') := hc 9 (by omega)
   have y10 : wr.cell? ⟨b, off + k * 11 + 10, none⟩ = some (nv r') := hc 10 (by omega)
   clear hc
   have hki : (k : Int) < (n : Int) := by omega
   have hz := hbw.size
   have hbr : b < wr.heap.size := by omega
   have e0 : toksX y 0 = toks0 y := toksX_no (by omega)
   have hspl : (sp (toks0 y)).length ≤ 100000000 := by have := HLE.out; omega
   have hFk : (F ++ aT (l.take k)).length ≤ 100000200 := by have := HLE.out; simp; omega
   go_wp2_with fail
   refine (HPX.out (by rw [e0]; exact hspl) A' c' p' q' r' S _ (H3.out.keep (fun b hB => one_new.block b (by have := HS.out b hB; omega))) (fun b hB => by have := HS.out b hB; simp; omega) _ (Below.refl _ _)).mono ?_; rintro e w6 ⟨rfl, b6⟩
   rw [e0]
   go_wp2_with fail
   ·exfalso
    rename_i hbig
    simp at hbig hFk
    omega
   go_roundw
   case rel =>
    refine ⟨k + 1, by omega, by go_num, ?_, hb.trans ((bthen one_new b6).mono hb.size)⟩
    rw [HSN.out]
    show Value.string (ByteArray.mk (F ++ aT (l.take k)).toArray ++ (ByteArray.mk [44, 32].toArray ++ ByteArray.mk (sp (toks0 y)).toArray)) = _
    rw [ba_append, ba_append, List.append_assoc]
   case measure => simp [intOf]; omega
  ·obtain rfl : k = n := by omega
   have hall : l.take k = l := List.take_of_length_le (by rw [HN.out]; exact Nat.le_refl _)
   rw [hall]
   have hFl' : (F ++ aT l).length ≤ 100000200 := by simp; omega
   go_wp2_with fail
   go_ret
   refine ⟨?_, hb⟩
   show Ending.returned (.string (ByteArray.mk (F ++ aT l).toArray ++ ByteArray.mk [41, 32].toArray)) = _
   rw [ba_append, ← HF.out]
   try simp
theorem rq5 (hn2 : l.length ≤ 2) (hx : RX w S A c l) (hS : ∀ b, S b → b < w.heap.size) (ih : ∀ y ∈ l, RPX y 0) (least : Nat) (hl : least ≤ 7)   (hlen1 : (aT l).length ≤ 100000000) (hlim : nm.length + cc.length + (aT l).length + 20 ≤ 100000100) : RunE 14 #[exVal 5 vk vn vs nm cc o (.slice A l.length c) p q r, nv least] (w_sum ++ [32, 40, 32] ++ nm ++ [32] ++ ([46, 32] ++ cc ++ [32]) ++ aT l ++ [41, 32]) w := by
 intro w' hbw
 have HW := Lib.hid hbw
 clear hbw
 have dl : ¬ (7 : Int) < (least : Int) := by omega
 obtain ⟨n, hn⟩ : ∃ n, l.length = n := ⟨_, rfl⟩
 rw [hn] at hn2 ⊢
 have HX := Lib.hid hx
 have HS := Lib.hid hS
 have HI := Lib.hid ih
 have HN := Lib.hid hn
 clear hx hS ih hn
 have hnm : nm.length ≤ 100000100 := by omega
 have hcm : cc.length ≤ 100000100 := by omega
 go_enter Tryz.func14, Tryz.ntmps14
 go_upto_region 1 with fail
 have BX : Hid ((w'.alloc (exO 5 vk vn vs nm cc o (.slice A n c) p q r)).heap[w'.heap.size]? = some (exB 5 vk vn vs nm cc o (.slice A n c) p q r)) := Lib.hid (alloc_at rfl)
 have FW : Hid (Below w'.heap.size w' (w'.alloc (exO 5 vk vn vs nm cc o (.slice A n c) p q r))) := Lib.hid one_new
 obtain ⟨w1, hw1⟩ : ∃ W, w'.alloc (exO 5 vk vn vs nm cc o (.slice A n c) p q r) = W := ⟨_, rfl⟩
 rw [hw1] at BX FW ⊢
 clear hw1
 obtain ⟨⟨⟨⟨x0, x1⟩, x2, x3⟩, ⟨x4, x5⟩, x6, x7⟩, ⟨x8, x9⟩, x10⟩ := cells11 BX.out
 have hlt1 : w'.heap.size < w1.heap.size := (Array.getElem?_eq_some_iff.1 BX.out).1
 go_wp2_with fail
 go_region
 go_wp2_with fail
 have hs : ByteArray.mk #[115, 117, 109] ++ ByteArray.mk #[32, 40, 32] ++ ByteArray.mk nm.toArray ++ ByteArray.mk #[32] ++ (ByteArray.mk #[46, 32] ++ ByteArray.mk cc.toArray ++ ByteArray.mk #[32]) = ByteArray.mk (w_sum ++ [32, 40, 32] ++ nm ++ [32] ++ ([46, 32] ++ cc ++ [32])).toArray := by
  show ByteArray.mk w_sum.toArray ++ ByteArray.mk [32, 40, 32].toArray ++ ByteArray.mk nm.toArray ++ ByteArray.mk [32].toArray ++ (ByteArray.mk [46, 32].toArray ++ ByteArray.mk cc.toArray ++ ByteArray.mk [32].toArray) = _
  rw [ba_append, ba_append, ba_append, ba_append, ba_append, ba_append]
 obtain ⟨F, hF⟩ : ∃ Z : List UInt8, w_sum ++ [32, 40, 32] ++ nm ++ [32] ++ ([46, 32] ++ cc ++ [32]) = Z := ⟨_, rfl⟩
 have hFl : F.length + (aT l).length + 2 ≤ 100000100 := by rw [← hF]; have := hlim; simp [w_has, w_sum, w_count] at this ⊢; omega
 rw [hs, hF]
 clear hs
 have HF := Lib.hid hF
 clear hF hlim
 clear x0 x1 x2 x3 x4 x5 x6 x7 x8 x9 x10
 obtain ⟨w3, hw3⟩ : ∃ W, (w1.alloc (Obj.cells #[.string ⟨#[104, 97, 115]⟩, .string ⟨#[115, 117, 109]⟩, .string ⟨#[99, 111, 117, 110, 116]⟩] 9)).drew = W := ⟨_, rfl⟩
 have F3 : Hid (Below w'.heap.size w' w3) := Lib.hid (bthen FW.out (by rw [← hw3]; exact ((Below.refl _ _).alloc (Nat.le_refl _) _).drew))
 rw [hw3]
 clear hw3 FW BX hlt1
 go_loopw [6, 80] (fun s i wr => ∃ k : Nat, k ≤ n ∧ i = .int .i64 k ∧ s = sv (F ++ aT (l.take k)) ∧ Below w'.heap.size w' wr) (fun _ i _ => n - (intOf i).toNat)
 case atStart => exact ⟨0, Nat.zero_le _, rfl, by rw [List.take_zero]; show _ = sv (F ++ []); rw [List.append_nil], F3.out⟩
 case round =>
  obtain ⟨k, hk, rfl, rfl, hb⟩ := hrel
  by_cases hlk : k < n
  ·have hlk' : k < l.length := by rw [HN.out]; exact hlk
   have hbw := bthen HW.out hb
   have HB := Lib.hid hbw
   obtain ⟨b, off, A', c', p', q', r', rfl, hb1, hc, h3⟩ := (HX.out.keep (w' := wr) fun b hB => hbw.block b (HS.out b hB)).at_ HS.out hlk'
   have hle := aT_take_le hlk'
   have hsn : aT (l.take (k + 1)) = aT (l.take k) ++ ([44, 32] ++ sp (toks0 l[k])) := by rw [List.take_succ_eq_append_getElem hlk', aT_snoc]
   have hpx := HI.out l[k] (List.getElem_mem hlk')
   have HSN := Lib.hid hsn
   have HLE := Lib.hid hle
   have H3 : Hid (ExAt wr S l[k] A' c') := Lib.hid ⟨h3⟩
   have HPX := Lib.hid hpx
   clear hsn hle h3 hpx
   generalize l[k] = y at *
   have y0 : wr.cell? ⟨b, off + k * 11, none⟩ = some (nv (hdK y)) := hc 0 (by omega)
   have y1 : wr.cell? ⟨b, off + k * 11 + 1, none⟩ = some (nv (hdV y).k) := hc 1 (by omega)
   have y2 : wr.cell? ⟨b, off + k * 11 + 2, none⟩ = some (nv (hdV y).n) := hc 2 (by omega)
   have y3 : wr.cell? ⟨b, off + k * 11 + 3, none⟩ = some (sv (hdV y).s) := hc 3 (by omega)
   have y4 : wr.cell? ⟨b, off + k * 11 + 4, none⟩ = some (sv (hdN y)) := hc 4 (by omega)
   have y5 : wr.cell? ⟨b, off + k * 11 + 5, none⟩ = some (sv (hdC y)) := hc 5 (by omega)
   have y6 : wr.cell? ⟨b, off + k * 11 + 6, none⟩ = some (nv (hdO y : Nat)) := hc 6 (by omega)
   have y7 : wr.cell? ⟨b, off + k * 11 + 7, none⟩ = some (.slice A' (parts y).length c') := hc 7 (by omega)
   have y8 : wr.cell? ⟨b, off + k * 11 + 8, none⟩ = some (nv p') := hc 8 (by omega)
   have y9 : wr.cell? ⟨b, off + k * 11 + 9, none⟩ = some (nv q') := hc 9 (by omega)
   have y10 : wr.cell? ⟨b, off + k * 11 + 10, none⟩ = some (nv r') := hc 10 (by omega)
   clear hc
   have hki : (k : Int) < (n : Int) := by omega
   have hz := hbw.size
   have hbr : b < wr.heap.size := by omega
   have e0 : toksX y 0 = toks0 y := toksX_no (by omega)
   have hspl : (sp (toks0 y)).length ≤ 100000000 := by have := HLE.out; omega
   have hFk : (F ++ aT (l.take k)).length ≤ 100000200 := by have := HLE.out; simp; omega
   go_wp2_with fail
   refine (HPX.out (by rw [e0]; exact hspl) A' c' p' q' r' S _ (H3.out.keep (fun b hB => one_new.block b (by have := HS.out b hB; omega))) (fun b hB => by have := HS.out b hB; simp; omega) _ (Below.refl _ _)).mono ?_; rintro e w6 ⟨rfl, b6⟩
   rw [e0]
   go_wp2_with fail
   ·exfalso
    rename_i hbig
    simp at hbig hFk
    omega
   go_roundw
   case rel =>
    refine ⟨k + 1, by omega, by go_num, ?_, hb.trans ((bthen one_new b6).mono hb.size)⟩
    rw [HSN.out]
    show Value.string (ByteArray.mk (F ++ aT (l.take k)).toArray ++ (ByteArray.mk [44, 32].toArray ++ ByteArray.mk (sp (toks0 y)).toArray)) = _
    rw [ba_append, ba_append, List.append_assoc]
   case measure => simp [intOf]; omega
  ·obtain rfl : k = n := by omega
   have hall : l.take k = l := List.take_of_length_le (by rw [HN.out]; exact Nat.le_refl _)
   rw [hall]
   have hFl' : (F ++ aT l).length ≤ 100000200 := by simp; omega
   go_wp2_with fail
   go_ret
   refine ⟨?_, hb⟩
   show Ending.returned (.string (ByteArray.mk (F ++ aT l).toArray ++ ByteArray.mk [41, 32].toArray)) = _
   rw [ba_append, ← HF.out]
   try simp
end
end Go.Proofs.YtnbmpfdffoidaaaGreat.Y
namespace Go.Proofs.YtnbmpfdffoidaaaGreat.Y
open Go.RowKit O V S X
theorem part_at {x : Ex} {A : Option Addr} {c : Nat} {S : Nat → Prop} {i : Nat} {w : World} (hi : i < (parts x).length) (h : ExAt w S x A c) (hS : ∀ b, S b → b < w.heap.size) :
  ∃ A' c' p' q' r', PartE (.slice A (parts x).length c) i (exX (parts x)[i] A' c' p' q' r') w ∧ ExAt w S (parts x)[i] A' c' := by
 obtain ⟨b, off, A', c', p', q', r', rfl, hb, hc, h3⟩ := h.part hS hi
 refine ⟨A', c', p', q', r', fun w' hw => ?_, h3⟩
 exact part_raw b off (parts x).length c i rfl hi (by have := parts_len x; omega) _ _ _ _ _ _ _ A' _ c' p' q' r' w' (by have := hw.size; omega) (fun j hj => (hw.cell (p := ⟨b, off + i * 11 + j, none⟩) hb).trans (hc j hj))
theorem sp_brk (x : Ex) : sp (tg [40] :: (toks0 x ++ [tg [41]])) = [40, 32] ++ sp (toks0 x) ++ [41, 32] := by
 rw [sp_cons, sp_app, sp_cons, sp_nil]
 simp [tg]
def RPX0 (x : Ex) : Prop := ∀ least, least ≤ lvlX x → RPX x least
theorem RPX0.all {x : Ex} (hx : okX x) (h : RPX0 x) : ∀ least, RPX x least := by
 intro least
 by_cases hl : least ≤ lvlX x
 ·exact h least hl
 ·intro hlen A c p q r S w hat hS
  rw [toksX_yes (by omega), sp_brk] at hlen ⊢
  have hT : (sp (toks0 x)).length ≤ 100000000 := by simp at hlen; omega
  have h0 := h 0 (by omega) (by rw [toksX_no (by omega)]; exact hT) A c p q r S w hat hS
  rw [toksX_no (by omega)] at h0
  cases x with
  | bin op a b => exact rbrk_bin _ _ _ _ _ _ _ _ _ _ _ w op least hx.1 _ (by have : lvlX (.bin op a b) = lvlS op := rfl; omega) (by omega) h0
  | un op a => exact rbrk_un _ _ _ _ _ _ _ _ _ _ _ _ w least _ (by have : lvlX (.un op a) = 6 := rfl; omega) (by omega) h0
  | val v => exact rbrk_leaf _ _ _ _ _ _ _ _ _ _ _ _ _ w least _ (by simp [hdK]) (by simp [hdK]) (by have : lvlX (.val v) = 7 := rfl; omega) (by omega) h0
  | var n => exact rbrk_leaf _ _ _ _ _ _ _ _ _ _ _ _ _ w least _ (by simp [hdK]) (by simp [hdK]) (by have : lvlX (.var n) = 7 := rfl; omega) (by omega) h0
  | cell n col k => exact rbrk_leaf _ _ _ _ _ _ _ _ _ _ _ _ _ w least _ (by simp [hdK]) (by simp [hdK]) (by have : lvlX (.cell n col k) = 7 := rfl; omega) (by omega) h0
  | has n k => exact rbrk_leaf _ _ _ _ _ _ _ _ _ _ _ _ _ w least _ (by simp [hdK]) (by simp [hdK]) (by have : lvlX (.has n k) = 7 := rfl; omega) (by omega) h0
  | sum n col a b => exact rbrk_leaf _ _ _ _ _ _ _ _ _ _ _ _ _ w least _ (by simp [hdK]) (by simp [hdK]) (by have : lvlX (.sum n col a b) = 7 := rfl; omega) (by omega) h0
  | cnt n a b => exact rbrk_leaf _ _ _ _ _ _ _ _ _ _ _ _ _ w least _ (by simp [hdK]) (by simp [hdK]) (by have : lvlX (.cnt n a b) = 7 := rfl; omega) (by omega) h0
theorem rpx_any : ∀ x, okX x → ∀ least, RPX x least :=
 Ex.ind fun x ih hx => by
  refine RPX0.all hx fun least hl hlen A c p q r S w hat hS => ?_
  rw [toksX_no hl] at hlen ⊢
  cases x with
  | val v =>
   have h1 : v.s.length ≤ 100000000 ∧ -9223372036854775808 ≤ v.n ∧ v.n ≤ 9223372036854775807 := by
    have hx : okV v := hx
    obtain ⟨k, n, s⟩ := v
    rcases right_cases hx.1 with ⟨e, e2⟩ | ⟨e, e2, e3⟩ | ⟨e, e2, e3⟩
    ·have := hx.2 e
     simp only at e2 this ⊢
     rw [e2]
     simp only [List.length_nil]
     omega
    ·simp only at e2 e3 ⊢
     rw [e2]
     simp only [List.length_nil]
     omega
    ·have := plain_len e3
     simp only at e2 this ⊢
     omega
   have e : sp (toks0 (.val v)) = printV ⟨v.k, v.n, v.s⟩ ++ [32] := by
    show sp [tv v] = _
    rw [sp_cons, sp_nil, tv_text (show okV v from hx).1]
   rw [e] at hlen ⊢
   exact rval_raw v.k v.n v.s [] [] 0 A 0 c p q r w least hl h1.1 h1.2.1 h1.2.2 (by simp at hlen; omega)
  | var n =>
   have e : sp (toks0 (.var n)) = n ++ [32] := by
    show sp [tw n] = _
    rw [sp_cons, sp_nil]; rfl
   rw [e] at hlen ⊢
   exact rvar_raw 0 0 [] n [] 0 A 0 c p q r w least hl (by simp at hlen; omega)
  | cell n col k =>
   obtain ⟨A', c', p', q', r', h1, h2⟩ := part_at (i := 0) (by simp [parts]) hat hS
   have e : sp (toks0 (.cell n col k)) = n ++ [32, 91, 32] ++ sp (toks0 k) ++ [93, 32, 46, 32] ++ col ++ [32] := by
    rw [toks0]
    simp [sp_cons, sp_app, sp_nil, tw, tg]
   rw [e] at hlen ⊢
   have hk := ih k (by simp [parts]) hx.2.2 0 (by rw [toksX_no (by omega)]; simp at hlen; omega) A' c' p' q' r' S w h2 hS
   rw [toksX_no (by omega)] at hk
   exact rcell_raw 0 0 [] n col 0 A 1 c p q r w least hl (by simp at hlen; omega) (by simp at hlen; omega) _ _ (by simp at hlen; omega) h1 hk
  | un op a =>
   obtain ⟨A', c', p', q', r', h1, h2⟩ := part_at (i := 0) (by simp [parts]) hat hS
   have e : sp (toks0 (.un op a)) = (if op = 13 then [33, 32] else [45, 32]) ++ sp (toksX a 6) := by
    rw [toks0, sp_cons]
    split <;> rfl
   rw [e] at hlen ⊢
   have hk := ih a (by simp [parts]) hx.2 6 (by simp at hlen; omega) A' c' p' q' r' S w h2 hS
   exact run_raw 0 0 [] [] [] A 1 c p q r w op least hx.1 hl _ _ (by simp at hlen; omega) h1 hk
  | bin op a b =>
   obtain ⟨A', c', p', q', r', h1, h2⟩ := part_at (i := 0) (by simp [parts]) hat hS
   obtain ⟨A2, c2, p2, q2, r2, h3, h4⟩ := part_at (i := 1) (by simp [parts]) hat hS
   have e : sp (toks0 (.bin op a b)) = sp (toksX a (lvlS op)) ++ signS op ++ [32] ++ sp (toksX b (lvlS op + 1)) := by
    rw [toks0]
    simp [sp_cons, sp_app, tg, toksX]
   rw [e] at hlen ⊢
   have hk := ih a (by simp [parts]) hx.2.1 (lvlS op) (by simp at hlen; omega) A' c' p' q' r' S w h2 hS
   have hk2 := ih b (by simp [parts]) hx.2.2 (lvlS op + 1) (by simp at hlen; omega) A2 c2 p2 q2 r2 S w h4 hS
   exact rbin_raw 0 0 [] [] [] A 2 c p q r w op least (lvlS op + 1) hx.1 hl rfl _ _ _ _ (by simp at hlen; omega) (by simp at hlen; omega) h1 h3 hk hk2
  | has n k =>
   have e : sp (toks0 (.has n k)) = w_has ++ [32, 40, 32] ++ n ++ [32] ++ aT [k] ++ [41, 32] := by
    rw [toks0]
    simp [sp_cons, sp_app, sp_nil, tw, tg, aT]
   rw [e] at hlen ⊢
   exact rq4 0 0 [] n [] 0 A c p q r w [k] S (by simp) hat.ex hS (fun y hy => ih y hy (by simp at hy; subst hy; exact hx.2) 0) least hl (by simp [w_has] at hlen ⊢; omega) (by simp [w_has] at hlen ⊢; omega)
  | sum n col a b =>
   have e : sp (toks0 (.sum n col a b)) = w_sum ++ [32, 40, 32] ++ n ++ [32] ++ ([46, 32] ++ col ++ [32]) ++ aT [a, b] ++ [41, 32] := by
    rw [toks0]
    simp [sp_cons, sp_app, sp_nil, tw, tg, aT]
   rw [e] at hlen ⊢
   exact rq5 0 0 [] n col 0 A c p q r w [a, b] S (by simp) hat.ex hS (fun y hy => ih y hy (by simp at hy; rcases hy with rfl | rfl; exact hx.2.2.1; exact hx.2.2.2) 0) least hl (by simp [w_sum] at hlen ⊢; omega) (by simp [w_sum] at hlen ⊢; omega)
  | cnt n a b =>
   have e : sp (toks0 (.cnt n a b)) = w_count ++ [32, 40, 32] ++ n ++ [32] ++ aT [a, b] ++ [41, 32] := by
    rw [toks0]
    simp [sp_cons, sp_app, sp_nil, tw, tg, aT]
   rw [e] at hlen ⊢
   exact rq6 0 0 [] n [] 0 A c p q r w [a, b] S (by simp) hat.ex hS (fun y hy => ih y hy (by simp at hy; rcases hy with rfl | rfl; exact hx.2.1; exact hx.2.2) 0) least hl (by simp [w_count] at hlen ⊢; omega) (by simp [w_count] at hlen ⊢; omega)
end Go.Proofs.YtnbmpfdffoidaaaGreat.Y
namespace Go.Proofs.YtnbmpfdffoidaaaGreat.Y
open Go.RowKit O V S X
theorem cat_run (l m : List UInt8) (hlen : l.length + m.length ≤ 9223372036854775807) (w : World) : (binOp .add 9 (sv l) (sv m)).run Tryz.prog w = .ok (sv (l ++ m)) w := by
 go_simp
 rw [if_neg (by omega)]
 rw [ba_append]
theorem wpList_cat {w : World} {ops : Array Oper} {rest : List Oper} {o : Oper} {a : Act} {Q : Exit → Act → World → Prop} (hgd : o.guard = none) {x y : Operand} (ho : o.op = .binOp .add 9 x y 9)
  {l m : List UInt8} (hx : a.eval x = sv l) (hy : a.eval y = sv m) (hlen : l.length + m.length ≤ 9223372036854775807) (h : wpList Tryz.prog ops Q rest (a.put o.dst (sv (l ++ m))) w) : wpList Tryz.prog ops Q (o :: rest) a w := by
 refine wpList_plain hgd fun K hK => ?_
 have hr := cat_run l m hlen w
 unfold Oper.wp execOp
 simp only [ho, hx, hy, eqGuard, Sem.run_bind, Sem.run_pure, Result.andThen_ok, hr]
 simp only [Bool.not_false, if_true, Sem.run_pure, Result.andThen_ok, hr]
 exact hK _ _ h
end Go.Proofs.YtnbmpfdffoidaaaGreat.Y
namespace Go.Proofs.YtnbmpfdffoidaaaGreat.Y
open Go.RowKit O V S X
theorem st_ext {x y : St} : x = y ↔ ((stK x = stK y ∧ stN x = stN y) ∧ (stT x = stT y ∧ stC x = stC y) ∧ stI x = stI y) ∧ stA x = stA y ∧ stB x = stB y ∧ stE x = stE y := by
 cases x <;> cases y <;> simp [stK, stN, stT, stC, stI, stA, stB, stE] <;> grind
theorem list_inj : ∀ {a b : Sts}, a.list = b.list → a = b
 | .nil, .nil, _ => rfl
 | .nil, .cons s r, h => by simp [Sts.list] at h
 | .cons s r, .nil, h => by simp [Sts.list] at h
 | .cons s r, .cons s' r', h => by
  simp only [Sts.list, List.cons.injEq] at h
  rw [h.1, list_inj h.2]
def RS (w : World) (S : Nat → Prop) (A : Option Addr) (c : Nat) (b : Sts) : Prop := ∃ es, Row w S 11 A b.len c es ∧ StsR w S b es
theorem RS.keep {w w' : World} {S : Nat → Prop} {A : Option Addr} {c : Nat} {b : Sts} (h : RS w S A c b) (hk : ∀ b, S b → w'.heap[b]? = w.heap[b]?) : RS w' S A c b := by
 obtain ⟨es, h1, h2⟩ := h
 exact ⟨es, h1.keep hk, StsR.keep hk _ _ h2⟩
theorem RS.cap {w : World} {S : Nat → Prop} {A : Option Addr} {c : Nat} {b : Sts} (h : RS w S A c b) : b.len ≤ c ∧ c ≤ 9223372036854775807 := by
 obtain ⟨es, h1, _⟩ := h
 exact h1.cap
theorem RX.cap {w : World} {S : Nat → Prop} {A : Option Addr} {c : Nat} {l : List Ex} (h : RX w S A c l) : l.length ≤ c ∧ c ≤ 9223372036854775807 := by
 obtain ⟨es, h1, _⟩ := h
 exact h1.cap
theorem RS.at_ {w : World} {S : Nat → Prop} {l : Sts} {A : Option Addr} {c : Nat} (h : RS w S A c l) {B : Nat} (hS : ∀ b, S b → b < B) {i : Nat} (hi : i < l.list.length) :
  ∃ b off A' c' B' d' E' f', ∃ p q r : Int, (A = some ⟨b, off, none⟩ ∧ b < B) ∧ (∀ j, j < 11 → w.cell? ⟨b, off + i * 11 + j, none⟩ = (stV l.list[i] (.slice A' (stA l.list[i]).length c') (.slice B' (stB l.list[i]).len d') (.slice E' (stE l.list[i]).len f') p q r)[j]?) ∧ RX w S A' c' (stA l.list[i]) ∧ RS w S B' d' (stB l.list[i]) ∧ RS w S E' f' (stE l.list[i]) := by
 obtain ⟨es, h1, h2⟩ := h
 have h3 := (StsR_reps _ _).1 h2
 rw [Sts.list_len] at hi
 obtain ⟨b, off, vs, e, hb, hr, hc⟩ := (h1.rd hS).elem StR.size h3 (i := i) (by rw [Sts.list_len]; exact hi) (by omega)
 obtain ⟨A', c', es', B', d', bs', E', f', fs', p, q, r, rfl, ⟨h5, h6⟩, ⟨h7, h8⟩, h9, h10⟩ := (StR_eq _ _).1 hr
 exact ⟨b, off, A', c', B', d', E', f', p, q, r, ⟨e, hb⟩, hc, ⟨_, h5, h6⟩, ⟨_, h7, h8⟩, ⟨_, h9, h10⟩⟩
def SameB (l : Sts) : Prop := ∀ (m : Sts) (A B : Option Addr) (c c' : Nat) (S S' : Nat → Prop) (w : World), RS w S A c l → RS w S' B c' m → (∀ b, S b → b < w.heap.size) → (∀ b, S' b → b < w.heap.size) →
 Calls Tryz.prog 23 #[.slice A l.len c, .slice B m.len c', .bool false] w fun e w' => RetQ (l = m) e ∧ Below w.heap.size w w'
theorem stA_len (s : St) : (stA s).length ≤ 2 := by cases s <;> simp [stA]
theorem sameB_step (l : Sts) (ih : ∀ x ∈ l.list, SameB (stB x) ∧ SameB (stE x)) : SameB l := by
 intro m A B c c' S S' w h1 h2 hS hS'
 have hcl := h1.cap
 have hcm := h2.cap
 have HIH := Lib.hid ih
 clear ih
 by_cases hne : l.len = m.len
 ·obtain ⟨n, hn⟩ : ∃ n, l.len = n := ⟨_, rfl⟩
  have hn2 : m.len = n := by omega
  have HN : Hid (l.list.length = n) := Lib.hid (by rw [Sts.list_len]; exact hn)
  have HN2 : Hid (m.list.length = n) := Lib.hid (by rw [Sts.list_len]; exact hn2)
  rw [hn] at hcl
  rw [hn2] at hcm
  rw [hn, hn2]
  clear hn hn2 hne
  have H1 := Lib.hid h1
  have H2 := Lib.hid h2
  have HS := Lib.hid hS
  have HS' := Lib.hid hS'
  clear h1 h2 hS hS'
  go_enter Tryz.func23, Tryz.ntmps23
  go_wp2_with fail
  go_loopw [6, 17] (fun _ i wr => ∃ k : Nat, k ≤ n ∧ i = .int .i64 k ∧ Hid (l.list.take k = m.list.take k) ∧ Below w.heap.size w wr) (fun _ i _ => n - (intOf i).toNat)
  case atStart => exact ⟨0, by omega, rfl, Lib.hid (by simp), Below.refl _ _⟩
  case round =>
   obtain ⟨k, hk, rfl, H, hb⟩ := hrel
   by_cases hlt : k < n
   ·have hlt' : k < l.list.length := by rw [HN.out]; exact hlt
    have hlt2 : k < m.list.length := by rw [HN2.out]; exact hlt
    have hki : (k : Int) < (n : Int) := by omega
    obtain ⟨b1, off1, A1, c1, B1, d1, E1, f1, p1, q1, r1, ⟨rfl, hb1⟩, hc1, ga1, gb1, ge1⟩ := (H1.out.keep (w' := wr) fun b hB => hb.block b (HS.out b hB)).at_ HS.out hlt'
    obtain ⟨b2, off2, A2, c2, B2, d2, E2, f2, p2, q2, r2, ⟨rfl, hb2⟩, hc2, ga2, gb2, ge2⟩ := (H2.out.keep (w' := wr) fun b hB => hb.block b (HS'.out b hB)).at_ HS'.out hlt2
    have hst := Lib.hid (take_same hlt' hlt2 H.out)
    have hno := Lib.hid (ne_at hlt' hlt2)
    have hih := Lib.hid (HIH.out _ (List.getElem_mem hlt'))
    have GA1 := Lib.hid ga1
    have GA2 := Lib.hid ga2
    have GB1 := Lib.hid gb1
    have GB2 := Lib.hid gb2
    have GE1 := Lib.hid ge1
    have GE2 := Lib.hid ge2
    have hL1 := stA_len l.list[k]
    have hL2 := stA_len m.list[k]
    have hx := Lib.hid (st_ext (x := l.list[k]) (y := m.list[k]))
    clear ga1 ga2 gb1 gb2 ge1 ge2
    have hz := hb.size
    have hbw1 : b1 < wr.heap.size := by omega
    have hbw2 : b2 < wr.heap.size := by omega
    generalize l.list[k] = x at *
    generalize m.list[k] = y at *
    have HNO : Hid (¬ (((stK x = stK y ∧ stN x = stN y) ∧ (stT x = stT y ∧ stC x = stC y) ∧ stI x = stI y) ∧ stA x = stA y ∧ stB x = stB y ∧ stE x = stE y) → l ≠ m) := Lib.hid fun h e => hno.out (fun e => h (hx.out.1 e)) (by rw [e])
    have HYES : Hid (((stK x = stK y ∧ stN x = stN y) ∧ (stT x = stT y ∧ stC x = stC y) ∧ stI x = stI y) ∧ stA x = stA y ∧ stB x = stB y ∧ stE x = stE y → l.list.take (k + 1) = m.list.take (k + 1)) := Lib.hid fun h => hst.out (hx.out.2 h)
    clear hno hst hx
    unfold stV at hc1 hc2
    generalize stK x = xk at *
    generalize stK y = yk at *
    generalize stN x = xn at *
    generalize stN y = yn at *
    generalize stT x = xt at *
    generalize stT y = yt at *
    generalize stC x = xc at *
    generalize stC y = yc at *
    generalize stI x = xi at *
    generalize stI y = yi at *
    generalize stA x = xa at *
    generalize stA y = ya at *
    generalize stB x = xb at *
    generalize stB y = yb at *
    generalize stE x = xe at *
    generalize stE y = ye at *
    have xy0 : wr.cell? ⟨b1, off1 + k * 11, none⟩ = some (nv xk) := hc1 0 (by omega)
    have xy1 : wr.cell? ⟨b1, off1 + k * 11 + 1, none⟩ = some (sv xn) := hc1 1 (by omega)
    have xy2 : wr.cell? ⟨b1, off1 + k * 11 + 2, none⟩ = some (sv xt) := hc1 2 (by omega)
    have xy3 : wr.cell? ⟨b1, off1 + k * 11 + 3, none⟩ = some (sv xc) := hc1 3 (by omega)
    have xy4 : wr.cell? ⟨b1, off1 + k * 11 + 4, none⟩ = some (nv xi) := hc1 4 (by omega)
    have xy5 : wr.cell? ⟨b1, off1 + k * 11 + 5, none⟩ = some (.slice A1 xa.length c1) := hc1 5 (by omega)
    have xy6 : wr.cell? ⟨b1, off1 + k * 11 + 6, none⟩ = some (.slice B1 xb.len d1) := hc1 6 (by omega)
    have xy7 : wr.cell? ⟨b1, off1 + k * 11 + 7, none⟩ = some (.slice E1 xe.len f1) := hc1 7 (by omega)
    have xy8 : wr.cell? ⟨b1, off1 + k * 11 + 8, none⟩ = some (nv p1) := hc1 8 (by omega)
    have xy9 : wr.cell? ⟨b1, off1 + k * 11 + 9, none⟩ = some (nv q1) := hc1 9 (by omega)
    have xy10 : wr.cell? ⟨b1, off1 + k * 11 + 10, none⟩ = some (nv r1) := hc1 10 (by omega)
    have yy0 : wr.cell? ⟨b2, off2 + k * 11, none⟩ = some (nv yk) := hc2 0 (by omega)
    have yy1 : wr.cell? ⟨b2, off2 + k * 11 + 1, none⟩ = some (sv yn) := hc2 1 (by omega)
    have yy2 : wr.cell? ⟨b2, off2 + k * 11 + 2, none⟩ = some (sv yt) := hc2 2 (by omega)
    have yy3 : wr.cell? ⟨b2, off2 + k * 11 + 3, none⟩ = some (sv yc) := hc2 3 (by omega)
    have yy4 : wr.cell? ⟨b2, off2 + k * 11 + 4, none⟩ = some (nv yi) := hc2 4 (by omega)
    have yy5 : wr.cell? ⟨b2, off2 + k * 11 + 5, none⟩ = some (.slice A2 ya.length c2) := hc2 5 (by omega)
    have yy6 : wr.cell? ⟨b2, off2 + k * 11 + 6, none⟩ = some (.slice B2 yb.len d2) := hc2 6 (by omega)
    have yy7 : wr.cell? ⟨b2, off2 + k * 11 + 7, none⟩ = some (.slice E2 ye.len f2) := hc2 7 (by omega)
    have yy8 : wr.cell? ⟨b2, off2 + k * 11 + 8, none⟩ = some (nv p2) := hc2 8 (by omega)
    have yy9 : wr.cell? ⟨b2, off2 + k * 11 + 9, none⟩ = some (nv q2) := hc2 9 (by omega)
    have yy10 : wr.cell? ⟨b2, off2 + k * 11 + 10, none⟩ = some (nv r2) := hc2 10 (by omega)
    clear hc1 hc2 H
    by_cases e0 : xk = yk
    ·subst e0
     by_cases e1 : xn = yn
     ·subst e1
      have s1 := fun w => sneq_no xn w
      by_cases e2 : xt = yt
      ·subst e2
       have s2 := fun w => sneq_no xt w
       by_cases e3 : xc = yc
       ·subst e3
        have s3 := fun w => sneq_no xc w
        by_cases e4 : xi = yi
        ·subst e4
         have D0 : Below wr.heap.size wr ((wr.alloc (.cells #[nv xk, sv xn, sv xt, sv xc, nv xi, .slice A1 xa.length c1, .slice B1 xb.len d1, .slice E1 xe.len f1, nv p1, nv q1, nv r1] 52)).alloc (.cells #[nv xk, sv xn, sv xt, sv xc, nv xi, .slice A2 ya.length c2, .slice B2 yb.len d2, .slice E2 ye.len f2, nv p2, nv q2, nv r2] 52)) := by repeat (first | exact Below.refl _ _ | refine Below.alloc ?_ (by first | omega | (simp <;> omega)) _)
         go_upto_region 10 with fail
         obtain ⟨w2, hw2⟩ : ∃ W, (wr.alloc (.cells #[nv xk, sv xn, sv xt, sv xc, nv xi, .slice A1 xa.length c1, .slice B1 xb.len d1, .slice E1 xe.len f1, nv p1, nv q1, nv r1] 52)).alloc (.cells #[nv xk, sv xn, sv xt, sv xc, nv xi, .slice A2 ya.length c2, .slice B2 yb.len d2, .slice E2 ye.len f2, nv p2, nv q2, nv r2] 52) = W := ⟨_, rfl⟩
         have X1 : Hid (w2.heap[wr.heap.size]? = some (.cells #[nv xk, sv xn, sv xt, sv xc, nv xi, .slice A1 xa.length c1, .slice B1 xb.len d1, .slice E1 xe.len f1, nv p1, nv q1, nv r1] 52 (0, 0))) := Lib.hid (by rw [← hw2]; exact alloc_old' (alloc_at rfl))
         have X2 : Hid (w2.heap[wr.heap.size + 1]? = some (.cells #[nv xk, sv xn, sv xt, sv xc, nv xi, .slice A2 ya.length c2, .slice B2 yb.len d2, .slice E2 ye.len f2, nv p2, nv q2, nv r2] 52 (0, 0))) := Lib.hid (by rw [← hw2]; exact alloc_at (by simp))
         rw [hw2] at D0 ⊢
         clear hw2
         have hzd := D0.size
         clear xy0 xy1 xy2 xy3 xy4 xy5 xy6 xy7 xy8 xy9 xy10 yy0 yy1 yy2 yy3 yy4 yy5 yy6 yy7 yy8 yy9 yy10
         obtain ⟨⟨⟨⟨u0, u1⟩, u2, u3⟩, ⟨u4, u5⟩, u6, u7⟩, ⟨u8, u9⟩, u10⟩ := cells11 X1.out
         obtain ⟨⟨⟨⟨z0, z1⟩, z2, z3⟩, ⟨z4, z5⟩, z6, z7⟩, ⟨z8, z9⟩, z10⟩ := cells11 X2.out
         go_wp2_with fail
         refine (sameR_any xa ya A1 A2 c1 c2 S S' w2 (GA1.out.keep fun b hB => D0.block b (by have := HS.out b hB; omega)) (GA2.out.keep fun b hB => D0.block b (by have := HS'.out b hB; omega)) (fun b hB => by have := HS.out b hB; omega) (fun b hB => by have := HS'.out b hB; omega) (by omega) (by omega)).mono ?_
         rintro e w5 ⟨⟨g1, rfl, hg1⟩, b5⟩
         have HG1 := Lib.hid hg1
         clear hg1
         have D5 := bthen D0 b5
         have hz5 := D5.size
         have B5 : Below w.heap.size w w5 := hb.trans (D5.mono hb.size)
         replace X1 := Lib.hid (box_next X1.out b5)
         replace X2 := Lib.hid (box_next X2.out b5)
         clear b5 u0 u1 u2 u3 u4 u5 u6 u7 u8 u9 u10 z0 z1 z2 z3 z4 z5 z6 z7 z8 z9 z10
         obtain ⟨⟨⟨⟨u0, u1⟩, u2, u3⟩, ⟨u4, u5⟩, u6, u7⟩, ⟨u8, u9⟩, u10⟩ := cells11 X1.out
         obtain ⟨⟨⟨⟨z0, z1⟩, z2, z3⟩, ⟨z4, z5⟩, z6, z7⟩, ⟨z8, z9⟩, z10⟩ := cells11 X2.out
         cases g1 with
         | false =>
          go_wp2_with fail
          go_ret
          refine ⟨⟨false, rfl, ?_⟩, B5⟩
          have := HNO.out (by have := HG1.out; simp at this; simp [this])
          simp [this]
         | true =>
          go_wp2_with fail
          refine (hih.out.1 yb B1 B2 d1 d2 S S' w5 (GB1.out.keep fun b hB => D5.block b (by have := HS.out b hB; omega)) (GB2.out.keep fun b hB => D5.block b (by have := HS'.out b hB; omega)) (fun b hB => by have := HS.out b hB; omega) (fun b hB => by have := HS'.out b hB; omega)).mono ?_
          rintro e w6 ⟨⟨g2, rfl, hg2⟩, b6⟩
          have HG2 := Lib.hid hg2
          clear hg2
          have D6 := bthen D5 b6
          have hz6 := D6.size
          have B6 : Below w.heap.size w w6 := hb.trans (D6.mono hb.size)
          replace X1 := Lib.hid (box_next X1.out b6)
          replace X2 := Lib.hid (box_next X2.out b6)
          clear b6 u0 u1 u2 u3 u4 u5 u6 u7 u8 u9 u10 z0 z1 z2 z3 z4 z5 z6 z7 z8 z9 z10
          obtain ⟨⟨⟨⟨u0, u1⟩, u2, u3⟩, ⟨u4, u5⟩, u6, u7⟩, ⟨u8, u9⟩, u10⟩ := cells11 X1.out
          obtain ⟨⟨⟨⟨z0, z1⟩, z2, z3⟩, ⟨z4, z5⟩, z6, z7⟩, ⟨z8, z9⟩, z10⟩ := cells11 X2.out
          cases g2 with
          | false =>
           go_wp2_with fail
           go_ret
           refine ⟨⟨false, rfl, ?_⟩, B6⟩
           have := HNO.out (by have := HG2.out; simp at this; simp [this])
           simp [this]
          | true =>
           go_wp2_with fail
           refine (hih.out.2 ye E1 E2 f1 f2 S S' w6 (GE1.out.keep fun b hB => D6.block b (by have := HS.out b hB; omega)) (GE2.out.keep fun b hB => D6.block b (by have := HS'.out b hB; omega)) (fun b hB => by have := HS.out b hB; omega) (fun b hB => by have := HS'.out b hB; omega)).mono ?_
           rintro e w7 ⟨⟨g3, rfl, hg3⟩, b7⟩
           have HG3 := Lib.hid hg3
           clear hg3
           have D7 := bthen D6 b7
           have B7 : Below w.heap.size w w7 := hb.trans (D7.mono hb.size)
           clear b7
           cases g3 with
           | false =>
            go_wp2_with fail
            go_ret
            refine ⟨⟨false, rfl, ?_⟩, B7⟩
            have := HNO.out (by have := HG3.out; simp at this; simp [this])
            simp [this]
           | true =>
            have hyes := HYES.out (by have h1 := HG1.out; have h2 := HG2.out; have h3 := HG3.out; simp at h1 h2 h3; simp [h1, h2, h3])
            have HY := Lib.hid hyes
            clear hyes
            go_wp2_with fail
            go_roundw
            case rel => exact ⟨k + 1, by omega, by go_num, HY, B7⟩
            case measure => simp [intOf]; omega
        ·have d4 : (xi != yi) = true := by simpa using e4
         go_wp2_with fail
         go_ret
         refine ⟨⟨false, rfl, ?_⟩, ?_⟩
         ·have := HNO.out (fun h => e4 h.1.2.2)
          simp [this]
         ·repeat (first | (with_reducible exact hb) | refine Below.alloc ?_ (by first | omega | (simp <;> omega)) _)
       ·have s3 := fun w => sneq_yes e3 w
        go_wp2_with fail
        go_ret
        refine ⟨⟨false, rfl, ?_⟩, ?_⟩
        ·have := HNO.out (fun h => e3 h.1.2.1.2)
         simp [this]
        ·repeat (first | (with_reducible exact hb) | refine Below.alloc ?_ (by first | omega | (simp <;> omega)) _)
      ·have s2 := fun w => sneq_yes e2 w
       go_wp2_with fail
       go_ret
       refine ⟨⟨false, rfl, ?_⟩, ?_⟩
       ·have := HNO.out (fun h => e2 h.1.2.1.1)
        simp [this]
       ·repeat (first | (with_reducible exact hb) | refine Below.alloc ?_ (by first | omega | (simp <;> omega)) _)
     ·have s1 := fun w => sneq_yes e1 w
      go_wp2_with fail
      go_ret
      refine ⟨⟨false, rfl, ?_⟩, ?_⟩
      ·have := HNO.out (fun h => e1 h.1.1.2)
       simp [this]
      ·repeat (first | (with_reducible exact hb) | refine Below.alloc ?_ (by first | omega | (simp <;> omega)) _)
    ·have d0 : (xk != yk) = true := by simpa using e0
     go_wp2_with fail
     go_ret
     refine ⟨⟨false, rfl, ?_⟩, ?_⟩
     ·have := HNO.out (fun h => e0 h.1.1.1)
      simp [this]
     ·repeat (first | (with_reducible exact hb) | refine Below.alloc ?_ (by first | omega | (simp <;> omega)) _)
   ·obtain rfl : k = n := by omega
    have hall : l = m := by
     have := H.out
     rw [List.take_of_length_le (by rw [HN.out]; exact Nat.le_refl _), List.take_of_length_le (by rw [HN2.out]; exact Nat.le_refl _)] at this
     exact list_inj this
    go_wp2_with fail
    go_ret
    exact ⟨⟨true, rfl, by simp [hall]⟩, hb⟩
 ·have hr : Hid (l ≠ m) := Lib.hid (fun e => hne (by rw [e]))
  have d1 : ((l.len : Int) != (m.len : Int)) = true := by simp; omega
  clear h1 h2
  go_enter Tryz.func23, Tryz.ntmps23
  go_wp2_with fail
  go_ret
  exact ⟨⟨false, rfl, by simp [hr.out]⟩, Below.refl _ _⟩
theorem sameB_any : ∀ b : Sts, SameB b := fun b =>
 (Sts.indM (P := fun s => SameB (stB s) ∧ SameB (stE s)) (Q := fun b => (∀ x ∈ b.list, SameB (stB x) ∧ SameB (stE x)) ∧ SameB b)
  (fun s h1 h2 => ⟨h1.2, h2.2⟩)
  ⟨fun x hx => (by cases hx), sameB_step .nil (fun x hx => (by cases hx))⟩
  (fun s r h1 h2 => by
   have h : ∀ x ∈ (Sts.cons s r).list, SameB (stB x) ∧ SameB (stE x) := fun x hx => by
    rcases List.mem_cons.1 hx with rfl | hx
    ·exact h1
    ·exact h2.1 x hx
   exact ⟨h, sameB_step _ h⟩) b).2
end Go.Proofs.YtnbmpfdffoidaaaGreat.Y
