/- Texts of the proof, joined: SynSameT, SynSameW, SynPq3. -/
import Derived.Test.YtnbmpfdffoidaaaGreatDoorBk13
set_option linter.unusedVariables false
set_option linter.unusedSimpArgs false
set_option maxHeartbeats 8000000
set_option maxRecDepth 100000
namespace Go.Proofs.YtnbmpfdffoidaaaGreatDoor.Y
open Go.RowKit O V S X
def RC (w : World) (S : Nat → Prop) (A : Option Addr) (c : Nat) (l : List Cl) : Prop := ∃ es, Row w S 3 A l.length c es ∧ Reps ClR l es
theorem RC.keep {w w' : World} {S : Nat → Prop} {A : Option Addr} {c : Nat} {l : List Cl} (h : RC w S A c l) (hk : ∀ b, S b → w'.heap[b]? = w.heap[b]?) : RC w' S A c l := by
 obtain ⟨es, h1, h2⟩ := h
 exact ⟨es, h1.keep hk, h2⟩
theorem RC.cap {w : World} {S : Nat → Prop} {A : Option Addr} {c : Nat} {l : List Cl} (h : RC w S A c l) : l.length ≤ c ∧ c ≤ 9223372036854775807 := by
 obtain ⟨es, h1, _⟩ := h
 exact h1.cap
theorem RC.at_ {w : World} {S : Nat → Prop} {l : List Cl} {A : Option Addr} {c : Nat} (h : RC w S A c l) {B : Nat} (hS : ∀ b, S b → b < B) {i : Nat} (hi : i < l.length) :
  ∃ b off, (A = some ⟨b, off, none⟩ ∧ b < B) ∧ ∀ W : World, (∀ b, S b → W.heap[b]? = w.heap[b]?) → (W.cell? ⟨b, off + i * 3, none⟩ = some (sv l[i].name) ∧ W.cell? ⟨b, off + i * 3 + 1, none⟩ = some (nv l[i].k)) ∧ W.cell? ⟨b, off + i * 3 + 2, none⟩ = some (nv l[i].m) := by
 obtain ⟨es, h1, h2⟩ := h
 obtain ⟨b, off, vs, e, hb, hr, hc⟩ := (h1.rd hS).elem ClR.size h2 hi (by omega)
 obtain rfl : vs = _ := hr
 refine ⟨b, off, ⟨e, hb⟩, fun W hW => ?_⟩
 obtain ⟨b', off', e', hS', _⟩ := h1.pos (by have := h1.len; omega)
 rw [e] at e'
 injection e' with e'
 injection e' with e1 e2
 subst e1 e2
 have hk : ∀ j, W.cell? ⟨b, j, none⟩ = w.cell? ⟨b, j, none⟩ := fun j => World.cell?_of_block (a := ⟨b, j, none⟩) (hW b hS')
 refine ⟨⟨?_, ?_⟩, ?_⟩ <;> rw [hk]
 ·exact hc 0 (by omega)
 ·exact hc 1 (by omega)
 ·exact hc 2 (by omega)
theorem Cl.same {x y : Cl} (h1 : x.name = y.name) (h2 : x.k = y.k) (h3 : x.m = y.m) : x = y := by
 cases x; cases y; simp_all
theorem cneq_yes {x y : Cl} (h : x ≠ y) (w : World) : (binOp .neq 72 (.agg #[.string ⟨x.name.toArray⟩, .int .i64 x.k, .int .i64 x.m]) (.agg #[.string ⟨y.name.toArray⟩, .int .i64 y.k, .int .i64 y.m])).run Tryz.prog w = .ok (.bool true) w := by
 go_simp
 exact fun h1 h2 h3 => h (Cl.same h1 h2 h3)
theorem cneq_no (x : Cl) (w : World) : (binOp .neq 72 (.agg #[.string ⟨x.name.toArray⟩, .int .i64 x.k, .int .i64 x.m]) (.agg #[.string ⟨x.name.toArray⟩, .int .i64 x.k, .int .i64 x.m])).run Tryz.prog w = .ok (.bool false) w := by
 go_simp
theorem Tb.same {x y : Tb} (h1 : x.name = y.name) (h2 : x.rows = y.rows) (h3 : x.cols = y.cols) : x = y := by
 cases x; cases y; simp_all
theorem sameTab_any (t u : Tb) (A B : Option Addr) (c c' : Nat) (S S' : Nat → Prop) (w : World) (h1 : RC w S A c t.cols) (h2 : RC w S' B c' u.cols) (hS : ∀ b, S b → b < w.heap.size) (hS' : ∀ b, S' b → b < w.heap.size) :
  Calls Tryz.prog 24 #[.agg #[sv t.name, nv t.rows, .slice A t.cols.length c], .agg #[sv u.name, nv u.rows, .slice B u.cols.length c']] w fun e w' => RetQ (t = u) e ∧ Below w.heap.size w w' := by
 obtain ⟨tn, tr, tc⟩ := t
 obtain ⟨un, ur, uc⟩ := u
 dsimp only at h1 h2 ⊢
 have hcl := h1.cap
 have hcm := h2.cap
 have H1 := Lib.hid h1
 have H2 := Lib.hid h2
 have HS := Lib.hid hS
 have HS' := Lib.hid hS'
 clear h1 h2 hS hS'
 have D0 : Below w.heap.size w ((w.alloc (.cells #[sv tn, nv tr, .slice A tc.length c] 66)).alloc (.cells #[sv un, nv ur, .slice B uc.length c'] 66)) := by repeat (first | exact Below.refl _ _ | refine Below.alloc ?_ (by first | omega | (simp <;> omega)) _)
 by_cases e0 : tn = un
 ·subst e0
  have s1 := fun w => sneq_no tn w
  by_cases e1 : tr = ur
  ·subst e1
   by_cases e2 : tc.length = uc.length
   ·obtain ⟨n, hn⟩ : ∃ n, tc.length = n := ⟨_, rfl⟩
    have hn2 : uc.length = n := by omega
    have HN := Lib.hid hn
    have HN2 := Lib.hid hn2
    rw [hn] at hcl D0 ⊢
    rw [hn2] at hcm D0 ⊢
    clear hn hn2 e2
    go_enter Tryz.func24, Tryz.ntmps24
    go_upto_region 3 with fail
    obtain ⟨w2, hw2⟩ : ∃ W, (w.alloc (.cells #[sv tn, nv tr, .slice A n c] 66)).alloc (.cells #[sv tn, nv tr, .slice B n c'] 66) = W := ⟨_, rfl⟩
    have X1 : Hid (w2.heap[w.heap.size]? = some (.cells #[sv tn, nv tr, .slice A n c] 66 (0, 0))) := Lib.hid (by rw [← hw2]; exact alloc_old' (alloc_at rfl))
    have X2 : Hid (w2.heap[w.heap.size + 1]? = some (.cells #[sv tn, nv tr, .slice B n c'] 66 (0, 0))) := Lib.hid (by rw [← hw2]; exact alloc_at (by simp))
    rw [hw2] at D0 ⊢
    clear hw2
    obtain ⟨u0, u1, u2⟩ := cells3 X1.out
    go_wp2_with fail
    go_loopw [4, 30] (fun _ i wr => ∃ k : Nat, k ≤ n ∧ i = .int .i64 k ∧ Hid (tc.take k = uc.take k) ∧ Hid (Below w2.heap.size w2 wr)) (fun _ i _ => n - (intOf i).toNat)
    case atStart => exact ⟨0, by omega, rfl, Lib.hid (by simp), Lib.hid (Below.refl _ _)⟩
    case round =>
     obtain ⟨k, hk, rfl, H, hb⟩ := hrel
     by_cases hlt : k < n
     ·have hlt' : k < tc.length := by rw [HN.out]; exact hlt
      have hlt2 : k < uc.length := by rw [HN2.out]; exact hlt
      have hki : (k : Int) < (n : Int) := by omega
      obtain ⟨b1, off1, ⟨rfl, hb1⟩, hc1⟩ := H1.out.at_ HS.out hlt'
      obtain ⟨b2, off2, ⟨rfl, hb2⟩, hc2⟩ := H2.out.at_ HS'.out hlt2
      have hst := Lib.hid (take_same hlt' hlt2 H.out)
      have hno := Lib.hid (ne_at hlt' hlt2)
      generalize tc[k] = x at *
      generalize uc[k] = y at *
      have X1r := Lib.hid (box_next X1.out hb.out)
      have X2r := Lib.hid (box_next X2.out hb.out)
      have HC1 := Lib.hid hc1
      have HC2 := Lib.hid hc2
      have hzd := D0.size
      have hzr := hb.out.size
      have DR := Lib.hid (D0.trans (hb.out.mono hzd))
      clear hc1 hc2 H u0 u1 u2
      by_cases e3 : x = y
      ·subst e3
       have s3 := fun w => cneq_no x w
       go_wp2_with fail
       refine wp_region_sched [(0, true), (1, true), (2, true), (3, true), (4, true), (5, true), (6, true), (7, true), (8, true), (9, true), (10, true)] (by kernel_rfl) (by kernel_rfl) (fun _ _ d _ _ h => by cases d <;> exact h) ?_
       refine swith (fun W hW => (cells3 (box_next X1r.out ((Below.refl _ _).drew.trans hW.out)))) (fun q1 => ?_)
       refine swith (fun W hW => (cells3 (box_next X2r.out ((Below.refl _ _).drew.trans hW.out)))) (fun q2 => ?_)
       refine swith (fun W hW => (HC1.out W (fun b hB => (bthen DR.out ((Below.refl _ _).drew.trans hW.out)).block b (HS.out b hB)))) (fun q3 => ?_)
       refine swith (fun W hW => (HC2.out W (fun b hB => (bthen DR.out ((Below.refl _ _).drew.trans hW.out)).block b (HS'.out b hB)))) (fun q4 => ?_)
       repeat (first | (refine sreadx rfl rfl ?_; apply Exists.intro; apply And.intro; (· (intro W hW; go_simp; try (first | with_reducible rfl | (rw [if_neg (by omega)]; try with_reducible rfl)))); simp only [Act.put, List.setIfInBounds_toArray, List.set_cons_zero, List.set_cons_succ]) | (refine sskip rfl rfl ?_; simp only [Act.put, List.setIfInBounds_toArray, List.set_cons_zero, List.set_cons_succ]))
       refine sdone ?_
       go_wp2_with fail
       go_roundw
       case rel => exact ⟨k + 1, by omega, by go_num, Lib.hid (hst.out (by trivial)), Lib.hid hb.out.drew⟩
       case measure => simp [intOf]; omega
      ·have s3 := fun w => cneq_yes e3 w
       go_wp2_with fail
       refine wp_region_sched [(0, true), (1, true), (2, true), (3, true), (4, true), (5, true), (6, true), (7, true), (8, true), (9, true), (10, true)] (by kernel_rfl) (by kernel_rfl) (fun _ _ d _ _ h => by cases d <;> exact h) ?_
       refine swith (fun W hW => (cells3 (box_next X1r.out ((Below.refl _ _).drew.trans hW.out)))) (fun q1 => ?_)
       refine swith (fun W hW => (cells3 (box_next X2r.out ((Below.refl _ _).drew.trans hW.out)))) (fun q2 => ?_)
       refine swith (fun W hW => (HC1.out W (fun b hB => (bthen DR.out ((Below.refl _ _).drew.trans hW.out)).block b (HS.out b hB)))) (fun q3 => ?_)
       refine swith (fun W hW => (HC2.out W (fun b hB => (bthen DR.out ((Below.refl _ _).drew.trans hW.out)).block b (HS'.out b hB)))) (fun q4 => ?_)
       repeat (first | (refine sreadx rfl rfl ?_; apply Exists.intro; apply And.intro; (· (intro W hW; go_simp; try (first | with_reducible rfl | (rw [if_neg (by omega)]; try with_reducible rfl)))); simp only [Act.put, List.setIfInBounds_toArray, List.set_cons_zero, List.set_cons_succ]) | (refine sskip rfl rfl ?_; simp only [Act.put, List.setIfInBounds_toArray, List.set_cons_zero, List.set_cons_succ]))
       refine sdone ?_
       go_wp2_with fail
       go_ret
       refine ⟨⟨false, rfl, ?_⟩, DR.out.drew⟩
       have := hno.out e3
       simp [this]
     ·obtain rfl : k = n := by omega
      have hall : tc = uc := by
       have := H.out
       rwa [List.take_of_length_le (by rw [HN.out]; exact Nat.le_refl _), List.take_of_length_le (by rw [HN2.out]; exact Nat.le_refl _)] at this
      go_wp2_with fail
      go_ret
      exact ⟨⟨true, rfl, by simp [hall]⟩, D0.trans (hb.out.mono D0.size)⟩
   ·have d2 : ((tc.length : Int) != (uc.length : Int)) = true := by simp; omega
    have hne : tc ≠ uc := fun e => e2 (by rw [e])
    have HNE := Lib.hid hne
    clear hne
    go_enter Tryz.func24, Tryz.ntmps24
    go_wp2_with fail
    go_ret
    exact ⟨⟨false, rfl, by simp [HNE.out]⟩, D0⟩
  ·have d1 : (tr != ur) = true := by simpa using e1
   go_enter Tryz.func24, Tryz.ntmps24
   go_wp2_with fail
   go_ret
   exact ⟨⟨false, rfl, by simp [e1]⟩, D0⟩
 ·have s1 := fun w => sneq_yes e0 w
  go_enter Tryz.func24, Tryz.ntmps24
  go_wp2_with fail
  go_ret
  exact ⟨⟨false, rfl, by simp [e0]⟩, D0⟩
end Go.Proofs.YtnbmpfdffoidaaaGreatDoor.Y
namespace Go.Proofs.YtnbmpfdffoidaaaGreatDoor.Y
open Go.RowKit O V S X
theorem Pc.same {x y : Pc} (h1 : x.name = y.name) (h2 : x.params = y.params) (h3 : x.body = y.body) : x = y := by
 cases x; cases y; simp_all
theorem Wk.same {x y : Wk} (h1 : x.tables = y.tables) (h2 : x.procs = y.procs) : x = y := by
 cases x; cases y; simp_all
def RT (w : World) (S : Nat → Prop) (A : Option Addr) (c : Nat) (l : List Tb) : Prop := ∃ es, Row w S 3 A l.length c es ∧ Reps (TbR w S) l es
def RP (w : World) (S : Nat → Prop) (A : Option Addr) (c : Nat) (l : List Pc) : Prop := ∃ es, Row w S 6 A l.length c es ∧ Reps (PcR w S) l es
theorem RT.keep {w w' : World} {S : Nat → Prop} {A : Option Addr} {c : Nat} {l : List Tb} (h : RT w S A c l) (hk : ∀ b, S b → w'.heap[b]? = w.heap[b]?) : RT w' S A c l := by
 obtain ⟨es, h1, h2⟩ := h
 exact ⟨es, h1.keep hk, h2.imp fun x vs => TbR.keep hk x vs⟩
theorem RP.keep {w w' : World} {S : Nat → Prop} {A : Option Addr} {c : Nat} {l : List Pc} (h : RP w S A c l) (hk : ∀ b, S b → w'.heap[b]? = w.heap[b]?) : RP w' S A c l := by
 obtain ⟨es, h1, h2⟩ := h
 exact ⟨es, h1.keep hk, h2.imp fun x vs => PcR.keep hk x vs⟩
theorem RT.cap {w : World} {S : Nat → Prop} {A : Option Addr} {c : Nat} {l : List Tb} (h : RT w S A c l) : l.length ≤ c ∧ c ≤ 9223372036854775807 := by
 obtain ⟨es, h1, _⟩ := h
 exact h1.cap
theorem RP.cap {w : World} {S : Nat → Prop} {A : Option Addr} {c : Nat} {l : List Pc} (h : RP w S A c l) : l.length ≤ c ∧ c ≤ 9223372036854775807 := by
 obtain ⟨es, h1, _⟩ := h
 exact h1.cap
theorem RT.at_ {w : World} {S : Nat → Prop} {l : List Tb} {A : Option Addr} {c : Nat} (h : RT w S A c l) {B : Nat} (hS : ∀ b, S b → b < B) {i : Nat} (hi : i < l.length) :
  ∃ b off A' c', (A = some ⟨b, off, none⟩ ∧ b < B) ∧ RC w S A' c' l[i].cols ∧ ∀ W : World, (∀ b, S b → W.heap[b]? = w.heap[b]?) → (W.cell? ⟨b, off + i * 3, none⟩ = some (sv l[i].name) ∧ W.cell? ⟨b, off + i * 3 + 1, none⟩ = some (nv l[i].rows)) ∧ W.cell? ⟨b, off + i * 3 + 2, none⟩ = some (.slice A' l[i].cols.length c') := by
 obtain ⟨es, h1, h2⟩ := h
 obtain ⟨b, off, vs, e, hb, ⟨A', c', es', rfl, h3, h4⟩, hc⟩ := (h1.rd hS).elem TbR.size h2 hi (by omega)
 refine ⟨b, off, A', c', ⟨e, hb⟩, ⟨es', h3, h4⟩, fun W hW => ?_⟩
 obtain ⟨b', off', e', hS', _⟩ := h1.pos (by have := h1.len; omega)
 rw [e] at e'
 injection e' with e'
 injection e' with e1 e2
 subst e1 e2
 have hk : ∀ j, W.cell? ⟨b, j, none⟩ = w.cell? ⟨b, j, none⟩ := fun j => World.cell?_of_block (a := ⟨b, j, none⟩) (hW b hS')
 refine ⟨⟨?_, ?_⟩, ?_⟩ <;> rw [hk]
 ·exact hc 0 (by omega)
 ·exact hc 1 (by omega)
 ·exact hc 2 (by omega)
theorem RP.at_ {w : World} {S : Nat → Prop} {l : List Pc} {A : Option Addr} {c : Nat} (h : RP w S A c l) {B : Nat} (hS : ∀ b, S b → b < B) {i : Nat} (hi : i < l.length) :
  ∃ b off A' c' B' d', ∃ p q r : Int, (A = some ⟨b, off, none⟩ ∧ b < B) ∧ (RC w S A' c' l[i].params ∧ RS w S B' d' l[i].body) ∧ ∀ j, j < 6 → w.cell? ⟨b, off + i * 6 + j, none⟩ = [sv l[i].name, .slice A' l[i].params.length c', .slice B' l[i].body.len d', nv p, nv q, nv r][j]? := by
 obtain ⟨es, h1, h2⟩ := h
 obtain ⟨b, off, vs, e, hb, ⟨A', c', es', B', d', bs, p, q, r, rfl, ⟨h3, h4⟩, h5, h6⟩, hc⟩ := (h1.rd hS).elem PcR.size h2 hi (by omega)
 exact ⟨b, off, A', c', B', d', p, q, r, ⟨e, hb⟩, ⟨⟨es', h3, h4⟩, ⟨bs, h5, h6⟩⟩, hc⟩
theorem box6 {W : World} {g : Nat} {a b c d e f : Value} {T : TypeId} (h : W.heap[g]? = some (.cells #[a, b, c, d, e, f] T (0, 0))) :
  ((W.cell? ⟨g, 0, none⟩ = some a ∧ W.cell? ⟨g, 1, none⟩ = some b) ∧ W.cell? ⟨g, 2, none⟩ = some c ∧ W.cell? ⟨g, 3, none⟩ = some d) ∧ W.cell? ⟨g, 4, none⟩ = some e ∧ W.cell? ⟨g, 5, none⟩ = some f := by
 refine ⟨⟨⟨?_, ?_⟩, ?_, ?_⟩, ?_, ?_⟩ <;> (rw [Lib.cell_of_heap h]; rfl)
theorem box2 {W : World} {g : Nat} {a b : Value} {T : TypeId} (h : W.heap[g]? = some (.cells #[a, b] T (0, 0))) : W.cell? ⟨g, 0, none⟩ = some a ∧ W.cell? ⟨g, 1, none⟩ = some b := by
 refine ⟨?_, ?_⟩ <;> (rw [Lib.cell_of_heap h]; rfl)
theorem sameW_any (t u : Wk) (v v' : Value) (S S' : Nat → Prop) (w : World) (h1 : WkR w S t v) (h2 : WkR w S' u v') (hS : ∀ b, S b → b < w.heap.size) (hS' : ∀ b, S' b → b < w.heap.size) :
  Calls Tryz.prog 9 #[v, v', .bool false] w fun e w' => RetQ (t = u) e ∧ Below w.heap.size w w' := by
 obtain ⟨A, c, es, B, d, fs, rfl, ha, hb, hc⟩ := h1
 obtain ⟨A', c', es', B', d', fs', rfl, ha', hb', hc'⟩ := h2
 have hT1 : RT w S A c t.tables := ⟨_, ha⟩
 have hT2 : RT w S' A' c' u.tables := ⟨_, ha'⟩
 have hP1 : RP w S B d t.procs := ⟨_, hb, hc⟩
 have hP2 : RP w S' B' d' u.procs := ⟨_, hb', hc'⟩
 have k1 := hT1.cap
 have k2 := hT2.cap
 have k3 := hP1.cap
 have k4 := hP2.cap
 have T1 := Lib.hid hT1
 have T2 := Lib.hid hT2
 have P1 := Lib.hid hP1
 have P2 := Lib.hid hP2
 have HS := Lib.hid hS
 have HS' := Lib.hid hS'
 clear ha hb hc ha' hb' hc' hT1 hT2 hP1 hP2 hS hS'
 have hwx : t = u ↔ t.tables = u.tables ∧ t.procs = u.procs := ⟨fun e => by subst e; exact ⟨rfl, rfl⟩, fun e => Wk.same e.1 e.2⟩
 have HWX := Lib.hid hwx
 clear hwx
 have D0 : Below w.heap.size w ((w.alloc (.cells #[.slice A t.tables.length c, .slice B t.procs.length d] 25)).alloc (.cells #[.slice A' u.tables.length c', .slice B' u.procs.length d'] 25)) := by repeat (first | exact Below.refl _ _ | refine Below.alloc ?_ (by first | omega | (simp <;> omega)) _)
 by_cases e0 : t.tables.length = u.tables.length
 ·by_cases e1 : t.procs.length = u.procs.length
  ·obtain ⟨n, hn⟩ : ∃ n, t.tables.length = n := ⟨_, rfl⟩
   obtain ⟨m, hm⟩ : ∃ m, t.procs.length = m := ⟨_, rfl⟩
   have hn2 : u.tables.length = n := by omega
   have hm2 : u.procs.length = m := by omega
   have HN := Lib.hid hn
   have HN2 := Lib.hid hn2
   have HM := Lib.hid hm
   have HM2 := Lib.hid hm2
   rw [hn] at k1
   rw [hn2] at k2
   rw [hm] at k3
   rw [hm2] at k4
   rw [hn, hn2, hm, hm2] at D0
   rw [hn, hn2, hm, hm2]
   clear hn hn2 hm hm2 e0 e1
   go_enter Tryz.func9, Tryz.ntmps9
   go_upto_region 3 with fail
   obtain ⟨w2, hw2⟩ : ∃ W, (w.alloc (.cells #[.slice A n c, .slice B m d] 25)).alloc (.cells #[.slice A' n c', .slice B' m d'] 25) = W := ⟨_, rfl⟩
   have X1 : Hid (w2.heap[w.heap.size]? = some (.cells #[.slice A n c, .slice B m d] 25 (0, 0))) := Lib.hid (by rw [← hw2]; exact alloc_old' (alloc_at rfl))
   have X2 : Hid (w2.heap[w.heap.size + 1]? = some (.cells #[.slice A' n c', .slice B' m d'] 25 (0, 0))) := Lib.hid (by rw [← hw2]; exact alloc_at (by simp))
   rw [hw2] at D0 ⊢
   clear hw2
   obtain ⟨u0, u1⟩ := box2 X1.out
   go_wp2_with fail
   clear u0 u1
   go_loopw [6, 31] (fun _ i wr => ∃ k : Nat, k ≤ n ∧ i = .int .i64 k ∧ Hid (t.tables.take k = u.tables.take k) ∧ Hid (Below w2.heap.size w2 wr)) (fun _ i _ => n - (intOf i).toNat)
   case atStart => exact ⟨0, by omega, rfl, Lib.hid (by simp), Lib.hid (Below.refl _ _)⟩
   case round =>
    obtain ⟨k, hk, rfl, H, hb⟩ := hrel
    have hzd := D0.size
    have hzr := hb.out.size
    by_cases hlt : k < n
    ·have hlt' : k < t.tables.length := by rw [HN.out]; exact hlt
     have hlt2 : k < u.tables.length := by rw [HN2.out]; exact hlt
     have hki : (k : Int) < (n : Int) := by omega
     obtain ⟨b1, off1, A1, c1, ⟨rfl, hb1⟩, rc1, hc1⟩ := T1.out.at_ HS.out hlt'
     obtain ⟨b2, off2, A2, c2, ⟨rfl, hb2⟩, rc2, hc2⟩ := T2.out.at_ HS'.out hlt2
     have hst := Lib.hid (take_same hlt' hlt2 H.out)
     have hno := Lib.hid (ne_at hlt' hlt2)
     have RC1 := Lib.hid rc1
     have RC2 := Lib.hid rc2
     have HC1 := Lib.hid hc1
     have HC2 := Lib.hid hc2
     clear rc1 rc2 hc1 hc2 H
     generalize t.tables[k] = x at *
     generalize u.tables[k] = y at *
     replace X1 := Lib.hid (box_next X1.out hb.out)
     replace X2 := Lib.hid (box_next X2.out hb.out)
     have DR := Lib.hid (D0.trans (hb.out.mono hzd))
     go_wp2_with fail
     refine wp_region_sched [(0, true), (1, true), (2, true), (3, true), (4, true), (5, true), (6, true), (7, true), (8, true), (9, true), (10, false), (11, true)] (by kernel_rfl) (by kernel_rfl) (fun _ _ d _ _ h => by cases d <;> exact h) ?_
     refine swith (fun W hW => (box2 (box_next X1.out ((Below.refl _ _).drew.trans hW.out)))) (fun q1 => ?_)
     refine swith (fun W hW => (box2 (box_next X2.out ((Below.refl _ _).drew.trans hW.out)))) (fun q2 => ?_)
     refine swith (fun W hW => (HC1.out W (fun b hB => (bthen DR.out ((Below.refl _ _).drew.trans hW.out)).block b (HS.out b hB)))) (fun q3 => ?_)
     refine swith (fun W hW => (HC2.out W (fun b hB => (bthen DR.out ((Below.refl _ _).drew.trans hW.out)).block b (HS'.out b hB)))) (fun q4 => ?_)
     repeat (first | (refine sreadx rfl rfl ?_; apply Exists.intro; apply And.intro; (· (intro W hW; go_simp; try (first | with_reducible rfl | (rw [if_neg (by omega)]; try with_reducible rfl)))); simp only [Act.put, List.setIfInBounds_toArray, List.set_cons_zero, List.set_cons_succ]) | (refine sskip rfl rfl ?_; simp only [Act.put, List.setIfInBounds_toArray, List.set_cons_zero, List.set_cons_succ]))
     refine scall rfl rfl (fun K hK => ?_)
     go_simp
     refine (sameTab_any x y A1 A2 c1 c2 S S' _ (RC1.out.keep fun b hB => DR.out.drew.block b (HS.out b hB)) (RC2.out.keep fun b hB => DR.out.drew.block b (HS'.out b hB)) (fun b hB => Nat.lt_of_lt_of_le (HS.out b hB) DR.out.drew.size) (fun b hB => Nat.lt_of_lt_of_le (HS'.out b hB) DR.out.drew.size)).mono ?_; rintro e w5 ⟨⟨g1, rfl, hg1⟩, b5⟩
     go_wp2_with fail
     refine hK.out _ _ (by exact b5) ?_
     clear hK K
     try simp only [Act.put, List.setIfInBounds_toArray, List.set_cons_zero, List.set_cons_succ]
     have HG1 := Lib.hid hg1
     clear hg1
     have D5 := Lib.hid (bthen hb.out.drew b5)
     cases g1 with
     | false =>
      repeat (first | (refine sreadx rfl rfl ?_; apply Exists.intro; apply And.intro; (· (intro W hW; go_simp; try (first | with_reducible rfl | (rw [if_neg (by omega)]; try with_reducible rfl)))); simp only [Act.put, List.setIfInBounds_toArray, List.set_cons_zero, List.set_cons_succ]) | (refine sskip rfl rfl ?_; simp only [Act.put, List.setIfInBounds_toArray, List.set_cons_zero, List.set_cons_succ]))
      refine sdone ?_
      go_wp2_with fail
      go_ret
      refine ⟨⟨false, rfl, ?_⟩, D0.trans (D5.out.mono D0.size)⟩
      have := hno.out (fun e => by have := HG1.out.2 e; cases this)
      constructor
      ·intro h; cases h
      ·intro h
       exact absurd (congrArg Wk.tables h) this
     | true =>
      repeat (first | (refine sreadx rfl rfl ?_; apply Exists.intro; apply And.intro; (· (intro W hW; go_simp; try (first | with_reducible rfl | (rw [if_neg (by omega)]; try with_reducible rfl)))); simp only [Act.put, List.setIfInBounds_toArray, List.set_cons_zero, List.set_cons_succ]) | (refine sskip rfl rfl ?_; simp only [Act.put, List.setIfInBounds_toArray, List.set_cons_zero, List.set_cons_succ]))
      refine sdone ?_
      go_wp2_with fail
      go_roundw
      case rel => exact ⟨k + 1, by omega, by go_num, Lib.hid (hst.out (HG1.out.1 (by trivial))), D5⟩
      case measure => simp [intOf]; omega
    ·obtain rfl : k = n := by omega
     have hall : t.tables = u.tables := by
      have := H.out
      rwa [List.take_of_length_le (by rw [HN.out]; exact Nat.le_refl _), List.take_of_length_le (by rw [HN2.out]; exact Nat.le_refl _)] at this
     have HALL := Lib.hid hall
     clear hall H
     replace X1 := Lib.hid (box_next X1.out hb.out)
     replace X2 := Lib.hid (box_next X2.out hb.out)
     obtain ⟨w3, hw3⟩ : ∃ w3, w3 = wr := ⟨_, rfl⟩
     rw [← hw3] at X1 X2 hb ⊢
     clear hw3
     have D3 := Lib.hid (D0.trans (hb.out.mono hzd))
     clear hb
     obtain ⟨u0, u1⟩ := box2 X1.out
     go_wp2_with fail
     clear u0 u1
     go_loopw [6, 50] (fun _ i wr => ∃ k : Nat, k ≤ m ∧ i = .int .i64 k ∧ Hid (t.procs.take k = u.procs.take k) ∧ Hid (Below w3.heap.size w3 wr)) (fun _ i _ => m - (intOf i).toNat)
     case atStart => exact ⟨0, by omega, rfl, Lib.hid (by simp), Lib.hid (Below.refl _ _)⟩
     case round =>
      obtain ⟨k, hk, rfl, H, hb⟩ := hrel
      generalize wr = wo at *
      have hz3 := D3.out.size
      have hzr := hb.out.size
      have DR := Lib.hid (D3.out.trans (hb.out.mono hz3))
      by_cases hlt : k < m
      ·have hlt' : k < t.procs.length := by rw [HM.out]; exact hlt
       have hlt2 : k < u.procs.length := by rw [HM2.out]; exact hlt
       have hki : (k : Int) < (m : Int) := by omega
       obtain ⟨b1, off1, A1, c1, B1, d1, p1, q1, r1, ⟨rfl, hb1⟩, ⟨rc1, rs1⟩, hc1⟩ := (P1.out.keep (w' := wo) fun b hB => DR.out.block b (HS.out b hB)).at_ HS.out hlt'
       obtain ⟨b2, off2, A2, c2, B2, d2, p2, q2, r2, ⟨rfl, hb2⟩, ⟨rc2, rs2⟩, hc2⟩ := (P2.out.keep (w' := wo) fun b hB => DR.out.block b (HS'.out b hB)).at_ HS'.out hlt2
       have hst := Lib.hid (take_same hlt' hlt2 H.out)
       have hno := Lib.hid (ne_at hlt' hlt2)
       have RC1 := Lib.hid rc1
       have RC2 := Lib.hid rc2
       have RS1 := Lib.hid rs1
       have RS2 := Lib.hid rs2
       clear rc1 rc2 rs1 rs2 H
       generalize t.procs[k] = x at *
       generalize u.procs[k] = y at *
       obtain ⟨xn, xp, xb⟩ := x
       obtain ⟨yn, yp, yb⟩ := y
       have HNO : Hid (¬ (xn = yn ∧ xp = yp ∧ xb = yb) → t ≠ u) := Lib.hid fun h e => hno.out (fun e => h (by injection e with e1 e2 e3; exact ⟨e1, e2, e3⟩)) (by rw [e])
       have HYES : Hid (xn = yn ∧ xp = yp ∧ xb = yb → t.procs.take (k + 1) = u.procs.take (k + 1)) := Lib.hid fun h => hst.out (by rw [h.1, h.2.1, h.2.2])
       clear hno hst
       dsimp only at hc1 hc2 RC1 RC2 RS1 RS2
       have kp1 := RC1.out.cap
       have kp2 := RC2.out.cap
       have x0 : wo.cell? ⟨b1, off1 + k * 6, none⟩ = some (sv xn) := hc1 0 (by omega)
       have x1 : wo.cell? ⟨b1, off1 + k * 6 + 1, none⟩ = some (.slice A1 xp.length c1) := hc1 1 (by omega)
       have x2 : wo.cell? ⟨b1, off1 + k * 6 + 2, none⟩ = some (.slice B1 xb.len d1) := hc1 2 (by omega)
       have x3 : wo.cell? ⟨b1, off1 + k * 6 + 3, none⟩ = some (nv p1) := hc1 3 (by omega)
       have x4 : wo.cell? ⟨b1, off1 + k * 6 + 4, none⟩ = some (nv q1) := hc1 4 (by omega)
       have x5 : wo.cell? ⟨b1, off1 + k * 6 + 5, none⟩ = some (nv r1) := hc1 5 (by omega)
       have y0 : wo.cell? ⟨b2, off2 + k * 6, none⟩ = some (sv yn) := hc2 0 (by omega)
       have y1 : wo.cell? ⟨b2, off2 + k * 6 + 1, none⟩ = some (.slice A2 yp.length c2) := hc2 1 (by omega)
       have y2 : wo.cell? ⟨b2, off2 + k * 6 + 2, none⟩ = some (.slice B2 yb.len d2) := hc2 2 (by omega)
       have y3 : wo.cell? ⟨b2, off2 + k * 6 + 3, none⟩ = some (nv p2) := hc2 3 (by omega)
       have y4 : wo.cell? ⟨b2, off2 + k * 6 + 4, none⟩ = some (nv q2) := hc2 4 (by omega)
       have y5 : wo.cell? ⟨b2, off2 + k * 6 + 5, none⟩ = some (nv r2) := hc2 5 (by omega)
       clear hc1 hc2
       have hbw1 : b1 < wo.heap.size := by omega
       have hbw2 : b2 < wo.heap.size := by omega
       obtain ⟨u0, u1⟩ := box2 (box_next X1.out hb.out)
       obtain ⟨z0, z1⟩ := box2 (box_next X2.out hb.out)
       have hwz : w.heap.size + 1 < wo.heap.size := (Array.getElem?_eq_some_iff.1 (box_next X2.out hb.out)).1
       have hwz0 : w.heap.size < wo.heap.size := by omega
       go_upto_region 14 with fail
       have D4 : Below wo.heap.size wo ((wo.alloc (.cells #[sv xn, .slice A1 xp.length c1, .slice B1 xb.len d1, nv p1, nv q1, nv r1] 41)).alloc (.cells #[sv yn, .slice A2 yp.length c2, .slice B2 yb.len d2, nv p2, nv q2, nv r2] 41)) := by repeat (first | exact Below.refl _ _ | refine Below.alloc ?_ (by first | omega | (simp <;> omega)) _)
       obtain ⟨w4, hw4⟩ : ∃ W, (wo.alloc (.cells #[sv xn, .slice A1 xp.length c1, .slice B1 xb.len d1, nv p1, nv q1, nv r1] 41)).alloc (.cells #[sv yn, .slice A2 yp.length c2, .slice B2 yb.len d2, nv p2, nv q2, nv r2] 41) = W := ⟨_, rfl⟩
       have Y1 : Hid (w4.heap[wo.heap.size]? = some (.cells #[sv xn, .slice A1 xp.length c1, .slice B1 xb.len d1, nv p1, nv q1, nv r1] 41 (0, 0))) := Lib.hid (by rw [← hw4]; exact alloc_old' (alloc_at rfl))
       have Y2 : Hid (w4.heap[wo.heap.size + 1]? = some (.cells #[sv yn, .slice A2 yp.length c2, .slice B2 yb.len d2, nv p2, nv q2, nv r2] 41 (0, 0))) := Lib.hid (by rw [← hw4]; exact alloc_at (by simp))
       rw [hw4] at D4 ⊢
       clear hw4 x0 x1 x2 x3 x4 x5 y0 y1 y2 y3 y4 y5 u0 u1 z0 z1
       have hz4 := D4.size
       have DW4 := Lib.hid (DR.out.trans (D4.mono DR.out.size))
       obtain ⟨⟨⟨x0, x1⟩, x2, x3⟩, x4, x5⟩ := box6 Y1.out
       obtain ⟨⟨⟨y0, y1⟩, y2, y3⟩, y4, y5⟩ := box6 Y2.out
       by_cases f0 : xn = yn
       ·subst f0
        have s1 := fun w => sneq_no xn w
        by_cases f1 : xp.length = yp.length
        ·obtain ⟨np, hnp⟩ : ∃ z, xp.length = z := ⟨_, rfl⟩
         have hnp2 : yp.length = np := by omega
         have HNP := Lib.hid hnp
         have HNP2 := Lib.hid hnp2
         rw [hnp] at x1 kp1 Y1
         rw [hnp2] at y1 kp2 Y2
         clear hnp hnp2 f1
         go_wp2_with fail
         refine (sameB_any xb yb B1 B2 d1 d2 S S' w4 (RS1.out.keep fun b hB => D4.block b (by have := HS.out b hB; omega)) (RS2.out.keep fun b hB => D4.block b (by have := HS'.out b hB; omega)) (fun b hB => by have := HS.out b hB; omega) (fun b hB => by have := HS'.out b hB; omega)).mono ?_
         rintro e w5 ⟨⟨g1, rfl, hg1⟩, b5⟩
         have HG1 := Lib.hid hg1
         clear hg1
         have DW5 := Lib.hid (DW4.out.trans (b5.mono DW4.out.size))
         have D45 := Lib.hid (bthen D4 b5)
         have hz5 := b5.size
         replace Y1 := Lib.hid (box_next Y1.out b5)
         replace Y2 := Lib.hid (box_next Y2.out b5)
         clear b5 x0 x1 x2 x3 x4 x5 y0 y1 y2 y3 y4 y5
         obtain ⟨⟨⟨x0, x1⟩, x2, x3⟩, x4, x5⟩ := box6 Y1.out
         obtain ⟨⟨⟨y0, y1⟩, y2, y3⟩, y4, y5⟩ := box6 Y2.out
         cases g1 with
         | false =>
          go_wp2_with fail
          go_ret
          refine ⟨⟨false, rfl, ?_⟩, DW5.out⟩
          have := HNO.out (fun h => by have := HG1.out.2 h.2.2; cases this)
          simp [this]
         | true =>
          have hbody : xb = yb := HG1.out.1 (by trivial)
          have HBD := Lib.hid hbody
          clear hbody
          go_wp2_with fail
          clear x0 x1 x2 x3 x4 x5 y0 y1 y2 y3 y4 y5
          have RC1' : Hid (RC w5 S A1 c1 xp) := Lib.hid (RC1.out.keep fun b hB => D45.out.block b (by have := HS.out b hB; omega))
          have RC2' : Hid (RC w5 S' A2 c2 yp) := Lib.hid (RC2.out.keep fun b hB => D45.out.block b (by have := HS'.out b hB; omega))
          go_loopw [6, 99] (fun _ i wr => ∃ j : Nat, j ≤ np ∧ i = .int .i64 j ∧ Hid (xp.take j = yp.take j) ∧ Hid (Below w5.heap.size w5 wr)) (fun _ i _ => np - (intOf i).toNat)
          case atStart => exact ⟨0, by omega, rfl, Lib.hid (by simp), Lib.hid (Below.refl _ _)⟩
          case round =>
           obtain ⟨j, hj, rfl, HJ, hbj⟩ := hrel
           by_cases hjlt : j < np
           ·have hj1 : j < xp.length := by rw [HNP.out]; exact hjlt
            have hj2 : j < yp.length := by rw [HNP2.out]; exact hjlt
            have hji : (j : Int) < (np : Int) := by omega
            obtain ⟨b3, off3, ⟨rfl, hb3⟩, hc3⟩ := RC1'.out.at_ HS.out hj1
            obtain ⟨b4, off4, ⟨rfl, hb4⟩, hc4⟩ := RC2'.out.at_ HS'.out hj2
            have hst := Lib.hid (take_same hj1 hj2 HJ.out)
            have hno := Lib.hid (ne_at hj1 hj2)
            generalize xp[j] = e1 at *
            generalize yp[j] = e2 at *
            have HC3 := Lib.hid hc3
            have HC4 := Lib.hid hc4
            clear hc3 hc4 HJ
            have Y1r := Lib.hid (box_next Y1.out hbj.out)
            have Y2r := Lib.hid (box_next Y2.out hbj.out)
            have hzj := hbj.out.size
            have hK : Hid (∀ W, Below wr.heap.size wr.drew W → ∀ b, b < w5.heap.size → W.heap[b]? = w5.heap[b]?) := Lib.hid fun W hW b hlt => (hW.block b (by omega)).trans (hbj.out.block b hlt)
            have hw5 : w.heap.size ≤ w5.heap.size := by omega
            by_cases f3 : e1 = e2
            ·subst f3
             have s3 := fun w => cneq_no e1 w
             go_wp2_with fail
             refine wp_region_sched [(0, true), (1, true), (2, true), (3, true), (4, true), (5, true), (6, true), (7, true), (8, true), (9, true), (10, true)] (by kernel_rfl) (by kernel_rfl) (fun _ _ d _ _ h => by cases d <;> exact h) ?_
             refine swith (fun W hW => (box6 (box_next Y1r.out ((Below.refl _ _).drew.trans hW.out)))) (fun q1 => ?_)
             refine swith (fun W hW => (box6 (box_next Y2r.out ((Below.refl _ _).drew.trans hW.out)))) (fun q2 => ?_)
             refine swith (fun W hW => (HC3.out W (fun b hB => hK.out W hW.out b (by have := HS.out b hB; omega)))) (fun q3 => ?_)
             refine swith (fun W hW => (HC4.out W (fun b hB => hK.out W hW.out b (by have := HS'.out b hB; omega)))) (fun q4 => ?_)
             repeat (first | (refine sreadx rfl rfl ?_; apply Exists.intro; apply And.intro; (· (intro W hW; go_simp; try (first | with_reducible rfl | (rw [if_neg (by omega)]; try with_reducible rfl)))); simp only [Act.put, List.setIfInBounds_toArray, List.set_cons_zero, List.set_cons_succ]) | (refine sskip rfl rfl ?_; simp only [Act.put, List.setIfInBounds_toArray, List.set_cons_zero, List.set_cons_succ]))
             refine sdone ?_
             go_wp2_with fail
             go_roundw
             case rel => exact ⟨j + 1, by omega, by go_num, Lib.hid (hst.out (by trivial)), Lib.hid hbj.out.drew⟩
             case measure => simp [intOf]; omega
            ·have s3 := fun w => cneq_yes f3 w
             go_wp2_with fail
             refine wp_region_sched [(0, true), (1, true), (2, true), (3, true), (4, true), (5, true), (6, true), (7, true), (8, true), (9, true), (10, true)] (by kernel_rfl) (by kernel_rfl) (fun _ _ d _ _ h => by cases d <;> exact h) ?_
             refine swith (fun W hW => (box6 (box_next Y1r.out ((Below.refl _ _).drew.trans hW.out)))) (fun q1 => ?_)
             refine swith (fun W hW => (box6 (box_next Y2r.out ((Below.refl _ _).drew.trans hW.out)))) (fun q2 => ?_)
             refine swith (fun W hW => (HC3.out W (fun b hB => hK.out W hW.out b (by have := HS.out b hB; omega)))) (fun q3 => ?_)
             refine swith (fun W hW => (HC4.out W (fun b hB => hK.out W hW.out b (by have := HS'.out b hB; omega)))) (fun q4 => ?_)
             repeat (first | (refine sreadx rfl rfl ?_; apply Exists.intro; apply And.intro; (· (intro W hW; go_simp; try (first | with_reducible rfl | (rw [if_neg (by omega)]; try with_reducible rfl)))); simp only [Act.put, List.setIfInBounds_toArray, List.set_cons_zero, List.set_cons_succ]) | (refine sskip rfl rfl ?_; simp only [Act.put, List.setIfInBounds_toArray, List.set_cons_zero, List.set_cons_succ]))
             refine sdone ?_
             go_wp2_with fail
             go_ret
             refine ⟨⟨false, rfl, ?_⟩, DW5.out.trans (hbj.out.drew.mono DW5.out.size)⟩
             have := HNO.out (fun h => hno.out f3 h.2.1)
             simp [this]
           ·obtain rfl : j = np := by omega
            have hpar : xp = yp := by
             have := HJ.out
             rwa [List.take_of_length_le (by rw [HNP.out]; exact Nat.le_refl _), List.take_of_length_le (by rw [HNP2.out]; exact Nat.le_refl _)] at this
            have hyes := HYES.out ⟨trivial, hpar, HBD.out⟩
            have HY := Lib.hid hyes
            have HBn := Lib.hid (bthen hb.out (D45.out.trans (hbj.out.mono D45.out.size)))
            clear hpar hyes
            go_wp2_with fail
            go_roundw
            case rel => exact ⟨k + 1, by omega, by go_num, HY, HBn⟩
            case measure => simp [intOf]; omega
        ·have d2 : ((xp.length : Int) != (yp.length : Int)) = true := by simp; omega
         have hne := HNO.out (fun h => f1 (by rw [h.2.1]))
         have HNE := Lib.hid hne
         clear hne
         go_wp2_with fail
         go_ret
         exact ⟨⟨false, rfl, by simp [HNE.out]⟩, DW4.out⟩
       ·have s1 := fun w => sneq_yes f0 w
        have hne := HNO.out (fun h => f0 h.1)
        have HNE := Lib.hid hne
        clear hne
        go_wp2_with fail
        go_ret
        exact ⟨⟨false, rfl, by simp [HNE.out]⟩, DW4.out⟩
      ·obtain rfl : k = m := by omega
       have hpr : t.procs = u.procs := by
        have := H.out
        rwa [List.take_of_length_le (by rw [HM.out]; exact Nat.le_refl _), List.take_of_length_le (by rw [HM2.out]; exact Nat.le_refl _)] at this
       have heq := HWX.out.2 ⟨HALL.out, hpr⟩
       have HEQ := Lib.hid heq
       clear heq hpr
       go_wp2_with fail
       go_ret
       exact ⟨⟨true, rfl, by simp [HEQ.out]⟩, DR.out⟩
  ·have d1 : ((t.procs.length : Int) != (u.procs.length : Int)) = true := by simp; omega
   have hne : t ≠ u := fun e => e1 (by rw [e])
   have HNE := Lib.hid hne
   clear hne
   rw [e0] at D0 ⊢
   go_enter Tryz.func9, Tryz.ntmps9
   go_wp2_with fail
   go_ret
   exact ⟨⟨false, rfl, by simp [HNE.out]⟩, D0⟩
 ·have d1 : ((t.tables.length : Int) != (u.tables.length : Int)) = true := by simp; omega
  have hne : t ≠ u := fun e => e0 (by rw [e])
  have HNE := Lib.hid hne
  clear hne
  go_enter Tryz.func9, Tryz.ntmps9
  go_wp2_with fail
  go_ret
  exact ⟨⟨false, rfl, by simp [HNE.out]⟩, D0⟩
end Go.Proofs.YtnbmpfdffoidaaaGreatDoor.Y
namespace Go.Proofs.YtnbmpfdffoidaaaGreatDoor.Y
open Go.RowKit O V S X
abbrev TyOk' (k m : Int) : Prop := (k = 1 ∧ m = 0) ∨ (k = 2 ∧ m = 0) ∨ (k = 3 ∧ 1 ≤ m ∧ m ≤ 32)
theorem dec_no32 {m : Int} (h : 0 ≤ m) : (32 : UInt8) ∉ decL m := by
 unfold decL
 rw [if_neg (by omega)]
 intro hm
 have := digN_mem m.natAbs _ hm
 simp at this
theorem dec_len21 {m : Int} (h : 1 ≤ m ∧ m ≤ 32) : (decL m).length ≤ 21 := by
 unfold decL
 have := digN_len20 m.natAbs (by omega)
 rw [if_neg (by omega)]
 omega
theorem typ_split {k m : Int} (h : TyOk' k m) : Lib.split (printT k m) [32] = txts (toksT k m) ∧ (printT k m).length ≤ 100 ∧ (txts (toksT k m)).length = (printT k m).count 32 + 1 := by
 have hs : Lib.split (printT k m) [32] = txts (toksT k m) ∧ (printT k m).length ≤ 100 := by
  rcases h with ⟨rfl, rfl⟩ | ⟨rfl, rfl⟩ | ⟨rfl, h⟩
  ·exact ⟨by rw [show printT 1 0 = w_int from rfl, ysplit_no (by decide)]; rfl, by decide⟩
  ·exact ⟨by rw [show printT 2 0 = w_bool from rfl, ysplit_no (by decide)]; rfl, by decide⟩
  ·have e : printT 3 m = w_text ++ 32 :: decL m := by
    unfold printT
    rw [if_pos (by unfold rightT; simp; omega)]
    rfl
   have := dec_len21 h
   exact ⟨by rw [e, ysplit_two (by decide) (dec_no32 (by omega))]; rfl, by rw [e]; simp [w_text]; omega⟩
 refine ⟨hs.1, hs.2, ?_⟩
 rw [← hs.1, ysplit_len]
theorem ptyp_raw (k m : Int) (h : TyOk' k m) (g : Nat) (w : World) : Run 21 #[.pointer (some ⟨g, 0, none⟩), .agg #[nv k, nv m]] g (txts (toksT k m)) w := by
 obtain ⟨h1, h2, h3⟩ := typ_split h
 obtain ⟨T, hT⟩ : ∃ T, txts (toksT k m) = T := ⟨_, rfl⟩
 rw [hT] at h1 h3 ⊢
 clear hT h
 intro w' L hbw hpr hlim
 have hlt := hpr.lt
 try simp only [List.length_cons, List.length_append, List.length_nil] at hlim
 have HL := Lib.hid hlim
 have HW := Lib.hid hbw
 clear hlim hbw
 have PW := Lib.hid hpr
 have FW : Hid (PF g w' w') := Lib.hid (.refl _ _)
 clear hpr
 have hpt := fun w => printType_any k m w
 unfold V.tv at hpt
 have HPT := Lib.hid hpt
 clear hpt
 generalize printT k m = s at *
 have hcl : s.count 32 ≤ s.length := List.count_le_length
 go_enter Tryz.func21, Tryz.ntmps21
 go_wp2_with fail
 refine (HPT.out _).mono ?_; rintro e w2 ⟨rfl, b2⟩
 replace PW := Lib.hid ((PW.out.next one_new).next b2)
 replace FW := Lib.hid ((FW.out.then one_new).then b2)
 clear b2
 go_wp2_with fail
 refine (ysplit_any s 32 _ (by omega)).mono ?_; rintro e w3 ⟨rfl, rfl⟩
 rw [h1]
 go_wp2_with fail
 refine (put_any g _ _ _ T _ _ (PW.out.next one_new) (Rd.made _ _ (by simp [h3]) (by first | rfl | simp [h3])) (by have := HL.out; omega)).mono ?_; rintro e w4 ⟨rfl, p4, f4⟩
 have FW4 := Lib.hid ((FW.out.then one_new).trans f4)
 have PW4 := Lib.hid p4
 clear p4 f4
 go_wp2_with fail
 first | go_end0 | refine bodyPost_ret (results_none rfl _ _ _) rfl ?_
 exact ⟨rfl, PW4.out, FW4.out⟩
theorem tPs_first {l : List Cl} (h : 0 < l.length) : toksPs (l.take (0 + 1)) = toksC l[0] := by
 cases l with
 | nil => simp at h
 | cons c r =>
  rw [List.take_succ_cons, List.take_zero]
  show toksC c ++ [] = _
  rw [List.append_nil]; rfl
theorem tPs_next {l : List Cl} {k : Nat} (h : k < l.length) (hk : 0 < k) : toksPs (l.take (k + 1)) = toksPs (l.take k) ++ (tg [44] :: toksC l[k]) := by
 cases l with
 | nil => simp at h
 | cons c r =>
  cases k with
  | zero => simp at hk
  | succ j =>
   have hj : j < r.length := by simpa using h
   rw [List.take_succ_cons, List.take_succ_cons]
   show toksC c ++ ((r.take (j + 1)).flatMap fun x => tg [44] :: toksC x) = (toksC c ++ ((r.take j).flatMap fun x => tg [44] :: toksC x)) ++ _
   rw [List.take_succ_eq_append_getElem hj, List.flatMap_append, ← List.append_assoc, List.flatMap_cons, List.flatMap_nil, List.append_nil, List.getElem_cons_succ]
theorem tPs_len (l : List Cl) (k : Nat) : (txts (toksPs (l.take k))).length ≤ (txts (toksPs l)).length := by
 cases l with
 | nil => simp [toksPs, txts]
 | cons c r =>
  cases k with
  | zero => rw [List.take_zero]; exact Nat.zero_le _
  | succ j =>
   rw [List.take_succ_cons]
   show (txts (toksC c ++ ((r.take j).flatMap fun x => tg [44] :: toksC x))).length ≤ (txts (toksC c ++ (r.flatMap fun x => tg [44] :: toksC x))).length
   conv => rhs; rw [← List.take_append_drop j r]
   rw [List.flatMap_append, txts_app, txts_app, txts_app, List.length_append, List.length_append, List.length_append]
   omega
theorem txts_C (c : Cl) : txts (toksC c) = c.name :: txts (toksT c.k c.m) := rfl
theorem flat_step {α : Type} (f : α → List Tok) {l : List α} {k : Nat} (h : k < l.length) : txts ((l.take (k + 1)).flatMap f) = txts ((l.take k).flatMap f) ++ txts (f l[k]) := by
 rw [List.take_succ_eq_append_getElem h, List.flatMap_append, txts_app, List.flatMap_cons, List.flatMap_nil, List.append_nil]
theorem flat_len {α : Type} (f : α → List Tok) (l : List α) (k : Nat) : (txts ((l.take k).flatMap f)).length ≤ (txts (l.flatMap f)).length := by
 conv => rhs; rw [← List.take_append_drop k l]
 rw [List.flatMap_append, txts_app, List.length_append]
 omega
abbrev pcV (nm : List UInt8) (a b : Value) (p q r : Int) : Value := .agg #[sv nm, a, b, nv p, nv q, nv r]
abbrev pcO (nm : List UInt8) (a b : Value) (p q r : Int) : Obj := .cells #[sv nm, a, b, nv p, nv q, nv r] 41
abbrev pcB (nm : List UInt8) (a b : Value) (p q r : Int) : Obj := .cells #[sv nm, a, b, nv p, nv q, nv r] 41 (0, 0)
abbrev clO (nm : List UInt8) (k m : Int) : Obj := .cells #[sv nm, nv k, nv m] 72
abbrev clB (nm : List UInt8) (k m : Int) : Obj := .cells #[sv nm, nv k, nv m] 72 (0, 0)
theorem cells3p {W : World} {g : Nat} {a b c : Value} {T : TypeId} (h : W.heap[g]? = some (.cells #[a, b, c] T (0, 0))) :
  (W.cell? ⟨g, 0, none⟩ = some a ∧ W.cell? ⟨g, 1, none⟩ = some b) ∧ W.cell? ⟨g, 2, none⟩ = some c := by
 refine ⟨⟨?_, ?_⟩, ?_⟩ <;> (rw [Lib.cell_of_heap h]; rfl)
theorem pproc_raw (tn : List UInt8) (tp : List Cl) (tb : Sts) (hty : ∀ c ∈ tp, TyOk' c.k c.m) (okb : okB tb) (A : Option Addr) (c : Nat) (B : Option Addr) (d : Nat) (p q r : Int) (g : Nat) (S : Nat → Prop) (w : World) (hA : RC w S A c tp) (hB : RS w S B d tb) (hS : ∀ b, S b → b < g) (hg : g ≤ w.heap.size) :
  Run 22 #[.pointer (some ⟨g, 0, none⟩), pcV tn (.slice A tp.length c) (.slice B tb.len d) p q r] g (txts (toksP ⟨tn, tp, tb⟩)) w := by
 have e : txts (toksP ⟨tn, tp, tb⟩) = [w_proc, tn, [40]] ++ (txts (toksPs tp) ++ ([41] :: ([123] :: (txts (toksB tb) ++ [[125]])))) := by
  unfold toksP
  simp [txts, tw, tg]
 rw [e]
 clear e
 have hcap := hA.cap
 have RB := Lib.hid (pb_any tb okb B d g S w hB hS hg)
 obtain ⟨np, hnp⟩ : ∃ z, tp.length = z := ⟨_, rfl⟩
 have HNC := Lib.hid hnp
 have RC1 := Lib.hid hA
 have HS := Lib.hid hS
 have HTYS := Lib.hid hty
 have hcl := tPs_len tp
 rw [hnp] at hcap ⊢
 generalize tb.len = mb at *
 clear hnp hA hB hS okb hty
 intro w' L hbw hpr hlim
 have hlt := hpr.lt
 try simp only [List.length_cons, List.length_append, List.length_nil] at hlim
 have HL := Lib.hid hlim
 have HW := Lib.hid hbw
 clear hlim hbw
 have PW := Lib.hid hpr
 have FW : Hid (PF g w' w') := Lib.hid (.refl _ _)
 clear hpr
 go_enter Tryz.func22, Tryz.ntmps22
 go_upto_region 1 with fail
 have BX : Hid ((w'.alloc (pcO tn (.slice A np c) (.slice B mb d) p q r)).heap[w'.heap.size]? = some (pcB tn (.slice A np c) (.slice B mb d) p q r)) := Lib.hid (alloc_at rfl)
 replace PW := Lib.hid (PW.out.next (one_new (o := pcO tn (.slice A np c) (.slice B mb d) p q r)))
 replace FW := Lib.hid (FW.out.then (one_new (o := pcO tn (.slice A np c) (.slice B mb d) p q r)))
 obtain ⟨w1, hw1⟩ : ∃ W, w'.alloc (pcO tn (.slice A np c) (.slice B mb d) p q r) = W := ⟨_, rfl⟩
 rw [hw1] at BX PW FW ⊢
 clear hw1
 have hltB : g < w'.heap.size := hlt
 obtain ⟨⟨⟨x0, x1⟩, x2, x3⟩, x4, x5⟩ := box6 BX.out
 go_wp2_with fail
 refine (put_any g _ _ _ [w_proc, tn, [40]] _ _ (PW.out.next one_new) (Rd.made _ _ rfl (by first | rfl | simp)) (by have := HL.out; simp; omega)).mono ?_; rintro e w3 ⟨rfl, p3, f3⟩
 replace BX := Lib.hid (f3.keep hltB (box_next BX.out one_new) (by decide))
 replace FW := Lib.hid ((FW.out.then one_new).trans f3)
 replace PW := Lib.hid p3
 clear p3 f3 x0 x1 x2 x3 x4 x5
 obtain ⟨⟨⟨x0, x1⟩, x2, x3⟩, x4, x5⟩ := box6 BX.out
 go_wp2_with fail
 clear x0 x1 x2 x3 x4 x5
 go_loopw [14] (fun i wr => ∃ z : Nat, z ≤ np ∧ i = .int .i64 z ∧ Hid (Pr wr g (L ++ [w_proc, tn, [40]] ++ txts (toksPs (tp.take z)))) ∧ Hid (PF g w' wr) ∧ Hid (wr.heap[w'.heap.size]? = some (pcB tn (.slice A np c) (.slice B mb d) p q r))) (fun i _ => np - (intOf i).toNat)
 case atStart => exact ⟨0, Nat.zero_le _, rfl, Lib.hid (by rw [List.take_zero, show txts (toksPs []) = [] from rfl, List.append_nil]; exact PW.out), FW, BX⟩
 case round =>
  clear PW FW BX
  obtain ⟨z, hz, rfl, PW, FW, BX⟩ := hrel
  have hbl := HW.out.trans (FW.out.below (Nat.le_of_lt hlt))
  have hclz := hcl z
  have hwr : w'.heap.size < wr.heap.size := (Array.getElem?_eq_some_iff.1 BX.out).1
  by_cases hzl : z < np
  ·have hzl' : z < tp.length := by rw [HNC.out]; exact hzl
   have hzi : (z : Int) < (np : Int) := by omega
   obtain ⟨b3, off3, ⟨rfl, hb3⟩, hc3⟩ := RC1.out.at_ HS.out hzl'
   have HST1 := Lib.hid (fun h0 : 0 < tp.length => tPs_first h0)
   have HST2 := Lib.hid (fun h0 : 0 < z => tPs_next hzl' h0)
   have hcl1 := hcl (z + 1)
   have HTY1 := Lib.hid (HTYS.out _ (List.getElem_mem hzl'))
   have HZ0 : Hid (∀ h0 : z = 0, tp[z] = tp[0]'(by omega)) := Lib.hid fun h0 => by subst h0; rfl
   obtain ⟨⟨y0, y1⟩, y2⟩ := hc3 wr (fun b hB => hbl.block b (HS.out b hB))
   generalize tp[z] = cl at *
   obtain ⟨cn, ck, cm⟩ := cl
   try dsimp only at y0 y1 y2
   have HTY := Lib.hid (ptyp_raw ck cm HTY1.out g w)
   have hb3w : b3 < wr.heap.size := by have := hbl.size; omega
   have hltC : g < wr.heap.size := by omega
   clear hc3 HTY1 hbl
   by_cases h0 : z = 0
   ·subst h0
    have HST : Hid (txts (toksPs (tp.take (0 + 1))) = cn :: txts (toksT ck cm)) := Lib.hid (by rw [HST1.out hzl', ← HZ0.out rfl]; rfl)
    have hcl2 := hcl1
    rw [HST.out] at hcl2
    simp only [List.length_cons] at hcl2
    rw [List.take_zero, show txts (toksPs []) = [] from rfl, List.append_nil] at PW
    simp only [Nat.zero_mul, Nat.add_zero] at y0 y1 y2
    clear HST1 HST2 HZ0 hcl1 hclz
    generalize txts (toksT ck cm) = Y at *
    go_upto_region 5 with fail
    have CX : Hid ((wr.alloc (clO cn ck cm)).heap[wr.heap.size]? = some (clB cn ck cm)) := Lib.hid (alloc_at rfl)
    replace PW := Lib.hid (PW.out.next (one_new (o := clO cn ck cm)))
    replace FW := Lib.hid (FW.out.then (one_new (o := clO cn ck cm)))
    replace BX := Lib.hid (box_next BX.out (one_new (o := clO cn ck cm)))
    obtain ⟨w5, hw5⟩ : ∃ W, wr.alloc (clO cn ck cm) = W := ⟨_, rfl⟩
    rw [hw5] at BX CX PW FW ⊢
    clear hw5 y0 y1 y2
    obtain ⟨⟨z0, z1⟩, z2⟩ := cells3p CX.out
    go_wp2_with fail
    refine (put_any g _ _ _ [cn] _ _ (PW.out.next one_new) (Rd.made _ _ rfl (by first | rfl | simp)) (by have := HL.out; simp; omega)).mono ?_; rintro e w6 ⟨rfl, p6, f6⟩
    replace BX := Lib.hid (f6.keep hltB (box_next BX.out one_new) (by decide))
    replace FW := Lib.hid ((FW.out.then one_new).trans f6)
    replace PW := Lib.hid p6
    have CX6 := Lib.hid (f6.keep hltC (box_next CX.out one_new) (by decide))
    clear p6 f6 z0 z1 z2
    obtain ⟨⟨z0, z1⟩, z2⟩ := cells3p CX6.out
    go_wp2_with fail
    refine (HTY.out _ _ (HW.out.trans (FW.out.below (Nat.le_of_lt hlt))) PW.out (by have := HL.out; simp; omega)).mono ?_; rintro e w7 ⟨rfl, p7, f7⟩
    replace BX := Lib.hid (f7.keep hltB BX.out (by decide))
    replace FW := Lib.hid (FW.out.trans f7)
    replace PW := Lib.hid p7
    clear p7 f7 z0 z1 z2 CX CX6
    go_wp2_with fail
    go_roundw
    case rel => exact ⟨0 + 1, by omega, by go_num, Lib.hid (by rw [HST.out]; simpa only [List.append_assoc, List.cons_append, List.nil_append] using PW.out), FW, BX⟩
    case measure => simp [intOf]; omega
   ·have h0' : 0 < z := by omega
    have HST : Hid (txts (toksPs (tp.take (z + 1))) = txts (toksPs (tp.take z)) ++ ([44] :: cn :: txts (toksT ck cm))) := Lib.hid (by rw [HST2.out h0', txts_app]; rfl)
    have hcl2 := hcl1
    rw [HST.out] at hcl2
    simp only [List.length_append, List.length_cons] at hcl2
    clear HST1 HST2 HZ0 hcl1
    generalize txts (toksT ck cm) = Y at *
    have hz0i : (0 : Int) < (z : Int) := by omega
    go_upto_region 5 with fail
    have CX : Hid ((wr.alloc (clO cn ck cm)).heap[wr.heap.size]? = some (clB cn ck cm)) := Lib.hid (alloc_at rfl)
    replace PW := Lib.hid (PW.out.next (one_new (o := clO cn ck cm)))
    replace FW := Lib.hid (FW.out.then (one_new (o := clO cn ck cm)))
    replace BX := Lib.hid (box_next BX.out (one_new (o := clO cn ck cm)))
    obtain ⟨w5, hw5⟩ : ∃ W, wr.alloc (clO cn ck cm) = W := ⟨_, rfl⟩
    rw [hw5] at BX CX PW FW ⊢
    clear hw5 y0 y1 y2
    go_wp2_with fail
    refine (put_any g _ _ _ [[44]] _ _ (PW.out.next one_new) (Rd.made _ _ rfl (by first | rfl | simp)) (by have := HL.out; simp; omega)).mono ?_; rintro e w8 ⟨rfl, p8, f8⟩
    replace BX := Lib.hid (f8.keep hltB (box_next BX.out one_new) (by decide))
    replace FW := Lib.hid ((FW.out.then one_new).trans f8)
    replace PW := Lib.hid p8
    replace CX := Lib.hid (f8.keep hltC (box_next CX.out one_new) (by decide))
    clear p8 f8
    obtain ⟨⟨z0, z1⟩, z2⟩ := cells3p CX.out
    go_wp2_with fail
    refine (put_any g _ _ _ [cn] _ _ (PW.out.next one_new) (Rd.made _ _ rfl (by first | rfl | simp)) (by have := HL.out; simp; omega)).mono ?_; rintro e w6 ⟨rfl, p6, f6⟩
    replace BX := Lib.hid (f6.keep hltB (box_next BX.out one_new) (by decide))
    replace FW := Lib.hid ((FW.out.then one_new).trans f6)
    replace PW := Lib.hid p6
    have CX6 := Lib.hid (f6.keep hltC (box_next CX.out one_new) (by decide))
    clear p6 f6 z0 z1 z2
    obtain ⟨⟨z0, z1⟩, z2⟩ := cells3p CX6.out
    go_wp2_with fail
    refine (HTY.out _ _ (HW.out.trans (FW.out.below (Nat.le_of_lt hlt))) PW.out (by have := HL.out; simp; omega)).mono ?_; rintro e w7 ⟨rfl, p7, f7⟩
    replace BX := Lib.hid (f7.keep hltB BX.out (by decide))
    replace FW := Lib.hid (FW.out.trans f7)
    replace PW := Lib.hid p7
    clear p7 f7 z0 z1 z2 CX CX6
    go_wp2_with fail
    go_roundw
    case rel => exact ⟨z + 1, by omega, by go_num, Lib.hid (by rw [HST.out]; simpa only [List.append_assoc, List.cons_append, List.nil_append] using PW.out), FW, BX⟩
    case measure => simp [intOf]; omega
  ·obtain rfl : z = np := by omega
   rw [List.take_of_length_le (by rw [HNC.out]; exact Nat.le_refl _)] at PW
   clear hbl hclz
   have hzi : ¬ (z : Int) < (z : Int) := by omega
   go_wp2_with fail
   go_wp2_with fail
   refine (put_any g _ _ _ [[41]] _ _ (PW.out.next one_new) (Rd.made _ _ rfl (by first | rfl | simp)) (by have := HL.out; simp; omega)).mono ?_; rintro e w6 ⟨rfl, p6, f6⟩
   replace BX := Lib.hid (f6.keep hltB (box_next BX.out one_new) (by decide))
   replace FW := Lib.hid ((FW.out.then one_new).trans f6)
   replace PW := Lib.hid p6
   clear p6 f6
   obtain ⟨⟨⟨x0, x1⟩, x2, x3⟩, x4, x5⟩ := box6 BX.out
   go_wp2_with fail
   refine (RB.out _ _ (HW.out.trans (FW.out.below (Nat.le_of_lt hlt))) PW.out (by have := HL.out; simp; omega)).mono ?_; rintro e w7 ⟨rfl, p7, f7⟩
   replace BX := Lib.hid (f7.keep hltB BX.out (by decide))
   replace FW := Lib.hid (FW.out.trans f7)
   replace PW := Lib.hid p7
   clear p7 f7 x0 x1 x2 x3 x4 x5
   go_wp2_with fail
   first | go_end0 | refine bodyPost_ret (results_none rfl _ _ _) rfl ?_
   exact ⟨rfl, by simpa only [List.append_assoc, List.cons_append, List.nil_append] using PW.out, FW.out⟩
end Go.Proofs.YtnbmpfdffoidaaaGreatDoor.Y
