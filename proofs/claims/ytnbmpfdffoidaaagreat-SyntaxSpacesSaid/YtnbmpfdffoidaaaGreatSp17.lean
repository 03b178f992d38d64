/- Texts of the proof, joined: SynSameW, SynRw. -/
import Derived.Test.YtnbmpfdffoidaaaGreatSp16
set_option linter.unusedVariables false
set_option linter.unusedSimpArgs false
set_option maxHeartbeats 8000000
set_option maxRecDepth 100000
namespace Go.Proofs.YtnbmpfdffoidaaaGreat.Y
open Go.RowKit O V S X
theorem Pc.same {x y : Pc} (h1 : x.name = y.name) (h2 : x.params = y.params) (h3 : x.body = y.body) : x = y := by
 cases x; cases y; simp_all
theorem Wk.same {x y : Wk} (h1 : x.tables = y.tables) (h2 : x.procs = y.procs) : x = y := by
 cases x; cases y; simp_all
def RT (w : World) (S : Nat → Prop) (A : Option Addr) (c : Nat) (l : List Tb) : Prop := ∃ es, Row w S 3 A l.length c es ∧ Reps (TbR w S) l es
def RP (w : World) (S : Nat → Prop) (A : Option Addr) (c : Nat) (l : List Pc) : Prop := ∃ es, Row w S 6 A l.length c es ∧ Reps (PcR w S) l es
theorem RT.keep {w w' : World} {S : Nat → Prop} {A : Option Addr} {c : Nat} {l : List Tb} (h : RT w S A c l) (hk : ∀ b, S b → w'.heap[b]? = w.heap[b]?) : RT w' S A c l := by
 obtain ⟨es, h1, h2⟩ := h
 exact ⟨es, h1.keep hk, h2.imp fun x vs => TbR.keep hk x vs⟩
theorem RP.keep {w w' : World} {S : Nat → Prop} {A : Option Addr} {c : Nat} {l : List Pc} (h : RP w S A c l) (hk : ∀ b, S b → w'.heap[b]? = w.heap[b]?) : RP w' S A c l := by
 obtain ⟨es, h1, h2⟩ := h
 exact ⟨es, h1.keep hk, h2.imp fun x vs => PcR.keep hk x vs⟩
theorem RT.cap {w : World} {S : Nat → Prop} {A : Option Addr} {c : Nat} {l : List Tb} (h : RT w S A c l) : l.length ≤ c ∧ c ≤ 9223372036854775807 := by
 obtain ⟨es, h1, _⟩ := h
 exact h1.cap
theorem RP.cap {w : World} {S : Nat → Prop} {A : Option Addr} {c : Nat} {l : List Pc} (h : RP w S A c l) : l.length ≤ c ∧ c ≤ 9223372036854775807 := by
 obtain ⟨es, h1, _⟩ := h
 exact h1.cap
theorem RT.at_ {w : World} {S : Nat → Prop} {l : List Tb} {A : Option Addr} {c : Nat} (h : RT w S A c l) {B : Nat} (hS : ∀ b, S b → b < B) {i : Nat} (hi : i < l.length) :
  ∃ b off A' c', (A = some ⟨b, off, none⟩ ∧ b < B) ∧ RC w S A' c' l[i].cols ∧ ∀ W : World, (∀ b, S b → W.heap[b]? = w.heap[b]?) → (W.cell? ⟨b, off + i * 3, none⟩ = some (sv l[i].name) ∧ W.cell? ⟨b, off + i * 3 + 1, none⟩ = some (nv l[i].rows)) ∧ W.cell? ⟨b, off + i * 3 + 2, none⟩ = some (.slice A' l[i].cols.length c') := by
 obtain ⟨es, h1, h2⟩ := h
 obtain ⟨b, off, vs, e, hb, ⟨A', c', es', rfl, h3, h4⟩, hc⟩ := (h1.rd hS).elem TbR.size h2 hi (by omega)
 refine ⟨b, off, A', c', ⟨e, hb⟩, ⟨es', h3, h4⟩, fun W hW => ?_⟩
 obtain ⟨b', off', e', hS', _⟩ := h1.pos (by have := h1.len; omega)
 rw [e] at e'
 injection e' with e'
 injection e' with e1 e2
 subst e1 e2
 have hk : ∀ j, W.cell? ⟨b, j, none⟩ = w.cell? ⟨b, j, none⟩ := fun j => World.cell?_of_block (a := ⟨b, j, none⟩) (hW b hS')
 refine ⟨⟨?_, ?_⟩, ?_⟩ <;> rw [hk]
 ·exact hc 0 (by omega)
 ·exact hc 1 (by omega)
 ·exact hc 2 (by omega)
theorem RP.at_ {w : World} {S : Nat → Prop} {l : List Pc} {A : Option Addr} {c : Nat} (h : RP w S A c l) {B : Nat} (hS : ∀ b, S b → b < B) {i : Nat} (hi : i < l.length) :
  ∃ b off A' c' B' d', ∃ p q r : Int, (A = some ⟨b, off, none⟩ ∧ b < B) ∧ (RC w S A' c' l[i].params ∧ RS w S B' d' l[i].body) ∧ ∀ j, j < 6 → w.cell? ⟨b, off + i * 6 + j, none⟩ = [sv l[i].name, .slice A' l[i].params.length c', .slice B' l[i].body.len d', nv p, nv q, nv r][j]? := by
 obtain ⟨es, h1, h2⟩ := h
 obtain ⟨b, off, vs, e, hb, ⟨A', c', es', B', d', bs, p, q, r, rfl, ⟨h3, h4⟩, h5, h6⟩, hc⟩ := (h1.rd hS).elem PcR.size h2 hi (by omega)
 exact ⟨b, off, A', c', B', d', p, q, r, ⟨e, hb⟩, ⟨⟨es', h3, h4⟩, ⟨bs, h5, h6⟩⟩, hc⟩
theorem box6 {W : World} {g : Nat} {a b c d e f : Value} {T : TypeId} (h : W.heap[g]? = some (.cells #[a, b, c, d, e, f] T (0, 0))) :
  ((W.cell? ⟨g, 0, none⟩ = some a ∧ W.cell? ⟨g, 1, none⟩ = some b) ∧ W.cell? ⟨g, 2, none⟩ = some c ∧ W.cell? ⟨g, 3, none⟩ = some d) ∧ W.cell? ⟨g, 4, none⟩ = some e ∧ W.cell? ⟨g, 5, none⟩ = some f := by
 refine ⟨⟨⟨?_, ?_⟩, ?_, ?_⟩, ?_, ?_⟩ <;> (rw [Lib.cell_of_heap h]; rfl)
theorem box2 {W : World} {g : Nat} {a b : Value} {T : TypeId} (h : W.heap[g]? = some (.cells #[a, b] T (0, 0))) : W.cell? ⟨g, 0, none⟩ = some a ∧ W.cell? ⟨g, 1, none⟩ = some b := by
 refine ⟨?_, ?_⟩ <;> (rw [Lib.cell_of_heap h]; rfl)
theorem sameW_any (t u : Wk) (v v' : Value) (S S' : Nat → Prop) (w : World) (h1 : WkR w S t v) (h2 : WkR w S' u v') (hS : ∀ b, S b → b < w.heap.size) (hS' : ∀ b, S' b → b < w.heap.size) :
  Calls Tryz.prog 9 #[v, v', .bool false] w fun e w' => RetQ (t = u) e ∧ Below w.heap.size w w' := by
 obtain ⟨A, c, es, B, d, fs, rfl, ha, hb, hc⟩ := h1
 obtain ⟨A', c', es', B', d', fs', rfl, ha', hb', hc'⟩ := h2
 have hT1 : RT w S A c t.tables := ⟨_, ha⟩
 have hT2 : RT w S' A' c' u.tables := ⟨_, ha'⟩
 have hP1 : RP w S B d t.procs := ⟨_, hb, hc⟩
 have hP2 : RP w S' B' d' u.procs := ⟨_, hb', hc'⟩
 have k1 := hT1.cap
 have k2 := hT2.cap
 have k3 := hP1.cap
 have k4 := hP2.cap
 have T1 := Lib.hid hT1
 have T2 := Lib.hid hT2
 have P1 := Lib.hid hP1
 have P2 := Lib.hid hP2
 have HS := Lib.hid hS
 have HS' := Lib.hid hS'
 clear ha hb hc ha' hb' hc' hT1 hT2 hP1 hP2 hS hS'
 have hwx : t = u ↔ t.tables = u.tables ∧ t.procs = u.procs := ⟨fun e => by subst e; exact ⟨rfl, rfl⟩, fun e => Wk.same e.1 e.2⟩
 have HWX := Lib.hid hwx
 clear hwx
 have D0 : Below w.heap.size w ((w.alloc (.cells #[.slice A t.tables.length c, .slice B t.procs.length d] 26)).alloc (.cells #[.slice A' u.tables.length c', .slice B' u.procs.length d'] 26)) := by repeat (first | exact Below.refl _ _ | refine Below.alloc ?_ (by first | omega | (simp <;> omega)) _)
 by_cases e0 : t.tables.length = u.tables.length
 ·by_cases e1 : t.procs.length = u.procs.length
  ·obtain ⟨n, hn⟩ : ∃ n, t.tables.length = n := ⟨_, rfl⟩
   obtain ⟨m, hm⟩ : ∃ m, t.procs.length = m := ⟨_, rfl⟩
   have hn2 : u.tables.length = n := by omega
   have hm2 : u.procs.length = m := by omega
   have HN := Lib.hid hn
   have HN2 := Lib.hid hn2
   have HM := Lib.hid hm
   have HM2 := Lib.hid hm2
   rw [hn] at k1
   rw [hn2] at k2
   rw [hm] at k3
   rw [hm2] at k4
   rw [hn, hn2, hm, hm2] at D0
   rw [hn, hn2, hm, hm2]
   clear hn hn2 hm hm2 e0 e1
   go_enter Tryz.func9, Tryz.ntmps9
   go_upto_region 3 with fail
   obtain ⟨w2, hw2⟩ : ∃ W, (w.alloc (.cells #[.slice A n c, .slice B m d] 26)).alloc (.cells #[.slice A' n c', .slice B' m d'] 26) = W := ⟨_, rfl⟩
   have X1 : Hid (w2.heap[w.heap.size]? = some (.cells #[.slice A n c, .slice B m d] 26 (0, 0))) := Lib.hid (by rw [← hw2]; exact alloc_old' (alloc_at rfl))
   have X2 : Hid (w2.heap[w.heap.size + 1]? = some (.cells #[.slice A' n c', .slice B' m d'] 26 (0, 0))) := Lib.hid (by rw [← hw2]; exact alloc_at (by simp))
   rw [hw2] at D0 ⊢
   clear hw2
   obtain ⟨u0, u1⟩ := box2 X1.out
   go_wp2_with fail
   clear u0 u1
   go_loopw [6, 31] (fun _ i wr => ∃ k : Nat, k ≤ n ∧ i = .int .i64 k ∧ Hid (t.tables.take k = u.tables.take k) ∧ Hid (Below w2.heap.size w2 wr)) (fun _ i _ => n - (intOf i).toNat)
   case atStart => exact ⟨0, by omega, rfl, Lib.hid (by simp), Lib.hid (Below.refl _ _)⟩
   case round =>
    obtain ⟨k, hk, rfl, H, hb⟩ := hrel
    have hzd := D0.size
    have hzr := hb.out.size
    by_cases hlt : k < n
    ·have hlt' : k < t.tables.length := by rw [HN.out]; exact hlt
     have hlt2 : k < u.tables.length := by rw [HN2.out]; exact hlt
     have hki : (k : Int) < (n : Int) := by omega
     obtain ⟨b1, off1, A1, c1, ⟨rfl, hb1⟩, rc1, hc1⟩ := T1.out.at_ HS.out hlt'
     obtain ⟨b2, off2, A2, c2, ⟨rfl, hb2⟩, rc2, hc2⟩ := T2.out.at_ HS'.out hlt2
     have hst := Lib.hid (take_same hlt' hlt2 H.out)
     have hno := Lib.hid (ne_at hlt' hlt2)
     have RC1 := Lib.hid rc1
     have RC2 := Lib.hid rc2
     have HC1 := Lib.hid hc1
     have HC2 := Lib.hid hc2
     clear rc1 rc2 hc1 hc2 H
     generalize t.tables[k] = x at *
     generalize u.tables[k] = y at *
     replace X1 := Lib.hid (box_next X1.out hb.out)
     replace X2 := Lib.hid (box_next X2.out hb.out)
     have DR := Lib.hid (D0.trans (hb.out.mono hzd))
     go_wp2_with fail
     refine wp_region_sched [(0, true), (1, true), (2, true), (3, true), (4, true), (5, true), (6, true), (7, true), (8, true), (9, true), (10, false), (11, true)] (by kernel_rfl) (by kernel_rfl) (fun _ _ d _ _ h => by cases d <;> exact h) ?_
     refine swith (fun W hW => (box2 (box_next X1.out ((Below.refl _ _).drew.trans hW.out)))) (fun q1 => ?_)
     refine swith (fun W hW => (box2 (box_next X2.out ((Below.refl _ _).drew.trans hW.out)))) (fun q2 => ?_)
     refine swith (fun W hW => (HC1.out W (fun b hB => (bthen DR.out ((Below.refl _ _).drew.trans hW.out)).block b (HS.out b hB)))) (fun q3 => ?_)
     refine swith (fun W hW => (HC2.out W (fun b hB => (bthen DR.out ((Below.refl _ _).drew.trans hW.out)).block b (HS'.out b hB)))) (fun q4 => ?_)
     repeat (first | (refine sreadx rfl rfl ?_; apply Exists.intro; apply And.intro; (· (intro W hW; go_simp; try (first | with_reducible rfl | (rw [if_neg (by omega)]; try with_reducible rfl)))); simp only [Act.put, List.setIfInBounds_toArray, List.set_cons_zero, List.set_cons_succ]) | (refine sskip rfl rfl ?_; simp only [Act.put, List.setIfInBounds_toArray, List.set_cons_zero, List.set_cons_succ]))
     refine scall rfl rfl (fun K hK => ?_)
     go_simp
     refine (sameTab_any x y A1 A2 c1 c2 S S' _ (RC1.out.keep fun b hB => DR.out.drew.block b (HS.out b hB)) (RC2.out.keep fun b hB => DR.out.drew.block b (HS'.out b hB)) (fun b hB => Nat.lt_of_lt_of_le (HS.out b hB) DR.out.drew.size) (fun b hB => Nat.lt_of_lt_of_le (HS'.out b hB) DR.out.drew.size)).mono ?_; rintro e w5 ⟨⟨g1, rfl, hg1⟩, b5⟩
     go_wp2_with fail
     refine hK.out _ _ (by exact b5) ?_
     clear hK K
     try simp only [Act.put, List.setIfInBounds_toArray, List.set_cons_zero, List.set_cons_succ]
     have HG1 := Lib.hid hg1
     clear hg1
     have D5 := Lib.hid (bthen hb.out.drew b5)
     cases g1 with
     | false =>
      repeat (first | (refine sreadx rfl rfl ?_; apply Exists.intro; apply And.intro; (· (intro W hW; go_simp; try (first | with_reducible rfl | (rw [if_neg (by omega)]; try with_reducible rfl)))); simp only [Act.put, List.setIfInBounds_toArray, List.set_cons_zero, List.set_cons_succ]) | (refine sskip rfl rfl ?_; simp only [Act.put, List.setIfInBounds_toArray, List.set_cons_zero, List.set_cons_succ]))
      refine sdone ?_
      go_wp2_with fail
      go_ret
      refine ⟨⟨false, rfl, ?_⟩, D0.trans (D5.out.mono D0.size)⟩
      have := hno.out (fun e => by have := HG1.out.2 e; cases this)
      constructor
      ·intro h; cases h
      ·intro h
       exact absurd (congrArg Wk.tables h) this
     | true =>
      repeat (first | (refine sreadx rfl rfl ?_; apply Exists.intro; apply And.intro; (· (intro W hW; go_simp; try (first | with_reducible rfl | (rw [if_neg (by omega)]; try with_reducible rfl)))); simp only [Act.put, List.setIfInBounds_toArray, List.set_cons_zero, List.set_cons_succ]) | (refine sskip rfl rfl ?_; simp only [Act.put, List.setIfInBounds_toArray, List.set_cons_zero, List.set_cons_succ]))
      refine sdone ?_
      go_wp2_with fail
      go_roundw
      case rel => exact ⟨k + 1, by omega, by go_num, Lib.hid (hst.out (HG1.out.1 (by trivial))), D5⟩
      case measure => simp [intOf]; omega
    ·obtain rfl : k = n := by omega
     have hall : t.tables = u.tables := by
      have := H.out
      rwa [List.take_of_length_le (by rw [HN.out]; exact Nat.le_refl _), List.take_of_length_le (by rw [HN2.out]; exact Nat.le_refl _)] at this
     have HALL := Lib.hid hall
     clear hall H
     replace X1 := Lib.hid (box_next X1.out hb.out)
     replace X2 := Lib.hid (box_next X2.out hb.out)
     obtain ⟨w3, hw3⟩ : ∃ w3, w3 = wr := ⟨_, rfl⟩
     rw [← hw3] at X1 X2 hb ⊢
     clear hw3
     have D3 := Lib.hid (D0.trans (hb.out.mono hzd))
     clear hb
     obtain ⟨u0, u1⟩ := box2 X1.out
     go_wp2_with fail
     clear u0 u1
     go_loopw [6, 50] (fun _ i wr => ∃ k : Nat, k ≤ m ∧ i = .int .i64 k ∧ Hid (t.procs.take k = u.procs.take k) ∧ Hid (Below w3.heap.size w3 wr)) (fun _ i _ => m - (intOf i).toNat)
     case atStart => exact ⟨0, by omega, rfl, Lib.hid (by simp), Lib.hid (Below.refl _ _)⟩
     case round =>
      obtain ⟨k, hk, rfl, H, hb⟩ := hrel
      generalize wr = wo at *
      have hz3 := D3.out.size
      have hzr := hb.out.size
      have DR := Lib.hid (D3.out.trans (hb.out.mono hz3))
      by_cases hlt : k < m
      ·have hlt' : k < t.procs.length := by rw [HM.out]; exact hlt
       have hlt2 : k < u.procs.length := by rw [HM2.out]; exact hlt
       have hki : (k : Int) < (m : Int) := by omega
       obtain ⟨b1, off1, A1, c1, B1, d1, p1, q1, r1, ⟨rfl, hb1⟩, ⟨rc1, rs1⟩, hc1⟩ := (P1.out.keep (w' := wo) fun b hB => DR.out.block b (HS.out b hB)).at_ HS.out hlt'
       obtain ⟨b2, off2, A2, c2, B2, d2, p2, q2, r2, ⟨rfl, hb2⟩, ⟨rc2, rs2⟩, hc2⟩ := (P2.out.keep (w' := wo) fun b hB => DR.out.block b (HS'.out b hB)).at_ HS'.out hlt2
       have hst := Lib.hid (take_same hlt' hlt2 H.out)
       have hno := Lib.hid (ne_at hlt' hlt2)
       have RC1 := Lib.hid rc1
       have RC2 := Lib.hid rc2
       have RS1 := Lib.hid rs1
       have RS2 := Lib.hid rs2
       clear rc1 rc2 rs1 rs2 H
       generalize t.procs[k] = x at *
       generalize u.procs[k] = y at *
       obtain ⟨xn, xp, xb⟩ := x
       obtain ⟨yn, yp, yb⟩ := y
       have HNO : Hid (¬ (xn = yn ∧ xp = yp ∧ xb = yb) → t ≠ u) := Lib.hid fun h e => hno.out (fun e => h (by injection e with e1 e2 e3; exact ⟨e1, e2, e3⟩)) (by rw [e])
       have HYES : Hid (xn = yn ∧ xp = yp ∧ xb = yb → t.procs.take (k + 1) = u.procs.take (k + 1)) := Lib.hid fun h => hst.out (by rw [h.1, h.2.1, h.2.2])
       clear hno hst
       dsimp only at hc1 hc2 RC1 RC2 RS1 RS2
       have kp1 := RC1.out.cap
       have kp2 := RC2.out.cap
       have x0 : wo.cell? ⟨b1, off1 + k * 6, none⟩ = some (sv xn) := hc1 0 (by omega)
       have x1 : wo.cell? ⟨b1, off1 + k * 6 + 1, none⟩ = some (.slice A1 xp.length c1) := hc1 1 (by omega)
       have x2 : wo.cell? ⟨b1, off1 + k * 6 + 2, none⟩ = some (.slice B1 xb.len d1) := hc1 2 (by omega)
       have x3 : wo.cell? ⟨b1, off1 + k * 6 + 3, none⟩ = some (nv p1) := hc1 3 (by omega)
       have x4 : wo.cell? ⟨b1, off1 + k * 6 + 4, none⟩ = some (nv q1) := hc1 4 (by omega)
       have x5 : wo.cell? ⟨b1, off1 + k * 6 + 5, none⟩ = some (nv r1) := hc1 5 (by omega)
       have y0 : wo.cell? ⟨b2, off2 + k * 6, none⟩ = some (sv yn) := hc2 0 (by omega)
       have y1 : wo.cell? ⟨b2, off2 + k * 6 + 1, none⟩ = some (.slice A2 yp.length c2) := hc2 1 (by omega)
       have y2 : wo.cell? ⟨b2, off2 + k * 6 + 2, none⟩ = some (.slice B2 yb.len d2) := hc2 2 (by omega)
       have y3 : wo.cell? ⟨b2, off2 + k * 6 + 3, none⟩ = some (nv p2) := hc2 3 (by omega)
       have y4 : wo.cell? ⟨b2, off2 + k * 6 + 4, none⟩ = some (nv q2) := hc2 4 (by omega)
       have y5 : wo.cell? ⟨b2, off2 + k * 6 + 5, none⟩ = some (nv r2) := hc2 5 (by omega)
       clear hc1 hc2
       have hbw1 : b1 < wo.heap.size := by omega
       have hbw2 : b2 < wo.heap.size := by omega
       obtain ⟨u0, u1⟩ := box2 (box_next X1.out hb.out)
       obtain ⟨z0, z1⟩ := box2 (box_next X2.out hb.out)
       have hwz : w.heap.size + 1 < wo.heap.size := (Array.getElem?_eq_some_iff.1 (box_next X2.out hb.out)).1
       have hwz0 : w.heap.size < wo.heap.size := by omega
       go_upto_region 14 with fail
       have D4 : Below wo.heap.size wo ((wo.alloc (.cells #[sv xn, .slice A1 xp.length c1, .slice B1 xb.len d1, nv p1, nv q1, nv r1] 49)).alloc (.cells #[sv yn, .slice A2 yp.length c2, .slice B2 yb.len d2, nv p2, nv q2, nv r2] 49)) := by repeat (first | exact Below.refl _ _ | refine Below.alloc ?_ (by first | omega | (simp <;> omega)) _)
       obtain ⟨w4, hw4⟩ : ∃ W, (wo.alloc (.cells #[sv xn, .slice A1 xp.length c1, .slice B1 xb.len d1, nv p1, nv q1, nv r1] 49)).alloc (.cells #[sv yn, .slice A2 yp.length c2, .slice B2 yb.len d2, nv p2, nv q2, nv r2] 49) = W := ⟨_, rfl⟩
       have Y1 : Hid (w4.heap[wo.heap.size]? = some (.cells #[sv xn, .slice A1 xp.length c1, .slice B1 xb.len d1, nv p1, nv q1, nv r1] 49 (0, 0))) := Lib.hid (by rw [← hw4]; exact alloc_old' (alloc_at rfl))
       have Y2 : Hid (w4.heap[wo.heap.size + 1]? = some (.cells #[sv yn, .slice A2 yp.length c2, .slice B2 yb.len d2, nv p2, nv q2, nv r2] 49 (0, 0))) := Lib.hid (by rw [← hw4]; exact alloc_at (by simp))
       rw [hw4] at D4 ⊢
       clear hw4 x0 x1 x2 x3 x4 x5 y0 y1 y2 y3 y4 y5 u0 u1 z0 z1
       have hz4 := D4.size
       have DW4 := Lib.hid (DR.out.trans (D4.mono DR.out.size))
       obtain ⟨⟨⟨x0, x1⟩, x2, x3⟩, x4, x5⟩ := box6 Y1.out
       obtain ⟨⟨⟨y0, y1⟩, y2, y3⟩, y4, y5⟩ := box6 Y2.out
       by_cases f0 : xn = yn
       ·subst f0
        have s1 := fun w => sneq_no xn w
        by_cases f1 : xp.length = yp.length
        ·obtain ⟨np, hnp⟩ : ∃ z, xp.length = z := ⟨_, rfl⟩
         have hnp2 : yp.length = np := by omega
         have HNP := Lib.hid hnp
         have HNP2 := Lib.hid hnp2
         rw [hnp] at x1 kp1 Y1
         rw [hnp2] at y1 kp2 Y2
         clear hnp hnp2 f1
         go_wp2_with fail
         refine (sameB_any xb yb B1 B2 d1 d2 S S' w4 (RS1.out.keep fun b hB => D4.block b (by have := HS.out b hB; omega)) (RS2.out.keep fun b hB => D4.block b (by have := HS'.out b hB; omega)) (fun b hB => by have := HS.out b hB; omega) (fun b hB => by have := HS'.out b hB; omega)).mono ?_
         rintro e w5 ⟨⟨g1, rfl, hg1⟩, b5⟩
         have HG1 := Lib.hid hg1
         clear hg1
         have DW5 := Lib.hid (DW4.out.trans (b5.mono DW4.out.size))
         have D45 := Lib.hid (bthen D4 b5)
         have hz5 := b5.size
         replace Y1 := Lib.hid (box_next Y1.out b5)
         replace Y2 := Lib.hid (box_next Y2.out b5)
         clear b5 x0 x1 x2 x3 x4 x5 y0 y1 y2 y3 y4 y5
         obtain ⟨⟨⟨x0, x1⟩, x2, x3⟩, x4, x5⟩ := box6 Y1.out
         obtain ⟨⟨⟨y0, y1⟩, y2, y3⟩, y4, y5⟩ := box6 Y2.out
         cases g1 with
         | false =>
          go_wp2_with fail
          go_ret
          refine ⟨⟨false, rfl, ?_⟩, DW5.out⟩
          have := HNO.out (fun h => by have := HG1.out.2 h.2.2; cases this)
          simp [this]
         | true =>
          have hbody : xb = yb := HG1.out.1 (by trivial)
          have HBD := Lib.hid hbody
          clear hbody
          go_wp2_with fail
          clear x0 x1 x2 x3 x4 x5 y0 y1 y2 y3 y4 y5
          have RC1' : Hid (RC w5 S A1 c1 xp) := Lib.hid (RC1.out.keep fun b hB => D45.out.block b (by have := HS.out b hB; omega))
          have RC2' : Hid (RC w5 S' A2 c2 yp) := Lib.hid (RC2.out.keep fun b hB => D45.out.block b (by have := HS'.out b hB; omega))
          go_loopw [6, 99] (fun _ i wr => ∃ j : Nat, j ≤ np ∧ i = .int .i64 j ∧ Hid (xp.take j = yp.take j) ∧ Hid (Below w5.heap.size w5 wr)) (fun _ i _ => np - (intOf i).toNat)
          case atStart => exact ⟨0, by omega, rfl, Lib.hid (by simp), Lib.hid (Below.refl _ _)⟩
          case round =>
           obtain ⟨j, hj, rfl, HJ, hbj⟩ := hrel
           by_cases hjlt : j < np
           ·have hj1 : j < xp.length := by rw [HNP.out]; exact hjlt
            have hj2 : j < yp.length := by rw [HNP2.out]; exact hjlt
            have hji : (j : Int) < (np : Int) := by omega
            obtain ⟨b3, off3, ⟨rfl, hb3⟩, hc3⟩ := RC1'.out.at_ HS.out hj1
            obtain ⟨b4, off4, ⟨rfl, hb4⟩, hc4⟩ := RC2'.out.at_ HS'.out hj2
            have hst := Lib.hid (take_same hj1 hj2 HJ.out)
            have hno := Lib.hid (ne_at hj1 hj2)
            generalize xp[j] = e1 at *
            generalize yp[j] = e2 at *
            have HC3 := Lib.hid hc3
            have HC4 := Lib.hid hc4
            clear hc3 hc4 HJ
            have Y1r := Lib.hid (box_next Y1.out hbj.out)
            have Y2r := Lib.hid (box_next Y2.out hbj.out)
            have hzj := hbj.out.size
            have hK : Hid (∀ W, Below wr.heap.size wr.drew W → ∀ b, b < w5.heap.size → W.heap[b]? = w5.heap[b]?) := Lib.hid fun W hW b hlt => (hW.block b (by omega)).trans (hbj.out.block b hlt)
            have hw5 : w.heap.size ≤ w5.heap.size := by omega
            by_cases f3 : e1 = e2
            ·subst f3
             have s3 := fun w => cneq_no e1 w
             go_wp2_with fail
             refine wp_region_sched [(0, true), (1, true), (2, true), (3, true), (4, true), (5, true), (6, true), (7, true), (8, true), (9, true), (10, true)] (by kernel_rfl) (by kernel_rfl) (fun _ _ d _ _ h => by cases d <;> exact h) ?_
             refine swith (fun W hW => (box6 (box_next Y1r.out ((Below.refl _ _).drew.trans hW.out)))) (fun q1 => ?_)
             refine swith (fun W hW => (box6 (box_next Y2r.out ((Below.refl _ _).drew.trans hW.out)))) (fun q2 => ?_)
             refine swith (fun W hW => (HC3.out W (fun b hB => hK.out W hW.out b (by have := HS.out b hB; omega)))) (fun q3 => ?_)
             refine swith (fun W hW => (HC4.out W (fun b hB => hK.out W hW.out b (by have := HS'.out b hB; omega)))) (fun q4 => ?_)
             repeat (first | (refine sreadx rfl rfl ?_; apply Exists.intro; apply And.intro; (· (intro W hW; go_simp; try (first | with_reducible rfl | (rw [if_neg (by omega)]; try with_reducible rfl)))); simp only [Act.put, List.setIfInBounds_toArray, List.set_cons_zero, List.set_cons_succ]) | (refine sskip rfl rfl ?_; simp only [Act.put, List.setIfInBounds_toArray, List.set_cons_zero, List.set_cons_succ]))
             refine sdone ?_
             go_wp2_with fail
             go_roundw
             case rel => exact ⟨j + 1, by omega, by go_num, Lib.hid (hst.out (by trivial)), Lib.hid hbj.out.drew⟩
             case measure => simp [intOf]; omega
            ·have s3 := fun w => cneq_yes f3 w
             go_wp2_with fail
             refine wp_region_sched [(0, true), (1, true), (2, true), (3, true), (4, true), (5, true), (6, true), (7, true), (8, true), (9, true), (10, true)] (by kernel_rfl) (by kernel_rfl) (fun _ _ d _ _ h => by cases d <;> exact h) ?_
             refine swith (fun W hW => (box6 (box_next Y1r.out ((Below.refl _ _).drew.trans hW.out)))) (fun q1 => ?_)
             refine swith (fun W hW => (box6 (box_next Y2r.out ((Below.refl _ _).drew.trans hW.out)))) (fun q2 => ?_)
             refine swith (fun W hW => (HC3.out W (fun b hB => hK.out W hW.out b (by have := HS.out b hB; omega)))) (fun q3 => ?_)
             refine swith (fun W hW => (HC4.out W (fun b hB => hK.out W hW.out b (by have := HS'.out b hB; omega)))) (fun q4 => ?_)
             repeat (first | (refine sreadx rfl rfl ?_; apply Exists.intro; apply And.intro; (· (intro W hW; go_simp; try (first | with_reducible rfl | (rw [if_neg (by omega)]; try with_reducible rfl)))); simp only [Act.put, List.setIfInBounds_toArray, List.set_cons_zero, List.set_cons_succ]) | (refine sskip rfl rfl ?_; simp only [Act.put, List.setIfInBounds_toArray, List.set_cons_zero, List.set_cons_succ]))
             refine sdone ?_
             go_wp2_with fail
             go_ret
             refine ⟨⟨false, rfl, ?_⟩, DW5.out.trans (hbj.out.drew.mono DW5.out.size)⟩
             have := HNO.out (fun h => hno.out f3 h.2.1)
             simp [this]
           ·obtain rfl : j = np := by omega
            have hpar : xp = yp := by
             have := HJ.out
             rwa [List.take_of_length_le (by rw [HNP.out]; exact Nat.le_refl _), List.take_of_length_le (by rw [HNP2.out]; exact Nat.le_refl _)] at this
            have hyes := HYES.out ⟨trivial, hpar, HBD.out⟩
            have HY := Lib.hid hyes
            have HBn := Lib.hid (bthen hb.out (D45.out.trans (hbj.out.mono D45.out.size)))
            clear hpar hyes
            go_wp2_with fail
            go_roundw
            case rel => exact ⟨k + 1, by omega, by go_num, HY, HBn⟩
            case measure => simp [intOf]; omega
        ·have d2 : ((xp.length : Int) != (yp.length : Int)) = true := by simp; omega
         have hne := HNO.out (fun h => f1 (by rw [h.2.1]))
         have HNE := Lib.hid hne
         clear hne
         go_wp2_with fail
         go_ret
         exact ⟨⟨false, rfl, by simp [HNE.out]⟩, DW4.out⟩
       ·have s1 := fun w => sneq_yes f0 w
        have hne := HNO.out (fun h => f0 h.1)
        have HNE := Lib.hid hne
        clear hne
        go_wp2_with fail
        go_ret
        exact ⟨⟨false, rfl, by simp [HNE.out]⟩, DW4.out⟩
      ·obtain rfl : k = m := by omega
       have hpr : t.procs = u.procs := by
        have := H.out
        rwa [List.take_of_length_le (by rw [HM.out]; exact Nat.le_refl _), List.take_of_length_le (by rw [HM2.out]; exact Nat.le_refl _)] at this
       have heq := HWX.out.2 ⟨HALL.out, hpr⟩
       have HEQ := Lib.hid heq
       clear heq hpr
       go_wp2_with fail
       go_ret
       exact ⟨⟨true, rfl, by simp [HEQ.out]⟩, DR.out⟩
  ·have d1 : ((t.procs.length : Int) != (u.procs.length : Int)) = true := by simp; omega
   have hne : t ≠ u := fun e => e1 (by rw [e])
   have HNE := Lib.hid hne
   clear hne
   rw [e0] at D0 ⊢
   go_enter Tryz.func9, Tryz.ntmps9
   go_wp2_with fail
   go_ret
   exact ⟨⟨false, rfl, by simp [HNE.out]⟩, D0⟩
 ·have d1 : ((t.tables.length : Int) != (u.tables.length : Int)) = true := by simp; omega
  have hne : t ≠ u := fun e => e0 (by rw [e])
  have HNE := Lib.hid hne
  clear hne
  go_enter Tryz.func9, Tryz.ntmps9
  go_wp2_with fail
  go_ret
  exact ⟨⟨false, rfl, by simp [HNE.out]⟩, D0⟩
end Go.Proofs.YtnbmpfdffoidaaaGreat.Y
namespace Go.Proofs.YtnbmpfdffoidaaaGreat.Y
open Go.RowKit O V S X
theorem svc {l m : List UInt8} (h : l = m) : sv l = sv m := by rw [h]
theorem okC_ty {c : Cl} (h : okC c) : TyOk c.k c.m := h.t
theorem tbHead_eq (n : List UInt8) (r : Int) (l : List Cl) : tbHead ⟨n, r, l⟩ = [116, 97, 98, 108, 101, 32] ++ n ++ [32, 114, 111, 119, 115, 32] ++ (decL r ++ [32]) ++ [123, 32] := by
 simp [tbHead, w_table, w_rows]
theorem pcHead_eq (n : List UInt8) (l : List Cl) (b : Sts) : pcHead ⟨n, l, b⟩ = [112, 114, 111, 99, 32] ++ n ++ [32, 40, 32] := by
 simp [pcHead, w_proc]
theorem rprintW_any (k : Wk) (hk : okW k) (hlen : (sp (toksW k)).length ≤ 99999000) (v : Value) (S : Nat → Prop) (w : World) (h : WkR w S k v) (hS : ∀ b, S b → b < w.heap.size) :
  Calls Tryz.prog 8 #[v] w fun e w' => e = .returned (sv (textOf (toksW k))) ∧ Below w.heap.size w w' := by
 obtain ⟨A, c, es, B, d, fs, rfl, ha, hb, hc⟩ := h
 have hT1 : RT w S A c k.tables := ⟨_, ha⟩
 have hP1 : RP w S B d k.procs := ⟨_, hb, hc⟩
 have k1 := hT1.cap
 have k3 := hP1.cap
 have T1 := Lib.hid hT1
 have P1 := Lib.hid hP1
 have HS := Lib.hid hS
 have HK := Lib.hid hk
 have HL : Hid ((sp (tbsT k.tables)).length + (sp (pcsT k.procs)).length ≤ 99999000) := Lib.hid (by
  have : toksW k = tbsT k.tables ++ pcsT k.procs := rfl
  rw [this, sp_app, List.length_append] at hlen; exact hlen)
 obtain ⟨R, hR⟩ : ∃ R, textOf (toksW k) = R := ⟨_, rfl⟩
 have HR := Lib.hid hR
 rw [hR]
 obtain ⟨n, hn⟩ : ∃ n, k.tables.length = n := ⟨_, rfl⟩
 obtain ⟨m, hm⟩ : ∃ m, k.procs.length = m := ⟨_, rfl⟩
 have HN := Lib.hid hn
 have HM := Lib.hid hm
 rw [hn] at k1 ⊢
 rw [hm] at k3 ⊢
 clear ha hb hc hT1 hP1 hS hk hlen hn hm hR
 go_enter Tryz.func8, Tryz.ntmps8
 go_upto_region 2 with fail
 have D0 : Below w.heap.size w (w.alloc (.cells #[.slice A n c, .slice B m d] 26)) := (Below.refl _ _).alloc (Nat.le_refl _) _
 obtain ⟨w2, hw2⟩ : ∃ W, w.alloc (.cells #[.slice A n c, .slice B m d] 26) = W := ⟨_, rfl⟩
 have X1 : Hid (w2.heap[w.heap.size]? = some (.cells #[.slice A n c, .slice B m d] 26 (0, 0))) := Lib.hid (by rw [← hw2]; exact alloc_at rfl)
 rw [hw2] at D0 ⊢
 clear hw2
 obtain ⟨u0, u1⟩ := box2 X1.out
 have hz0 := D0.size
 go_wp2_with fail
 clear u0 u1
 go_loopw [3, 15] (fun s i wr => ∃ j : Nat, j ≤ n ∧ i = .int .i64 j ∧ s = sv (sp (tbsT (k.tables.take j))) ∧ Hid (Below w2.heap.size w2 wr)) (fun _ i _ => n - (intOf i).toNat)
 case atStart => exact ⟨0, by omega, rfl, rfl, Lib.hid (Below.refl _ _)⟩
 case round =>
  obtain ⟨j, hj, rfl, rfl, hb⟩ := hrel
  have hzr := hb.out.size
  have DR := Lib.hid (D0.trans (hb.out.mono hz0))
  by_cases hlt : j < n
  ·have hlt' : j < k.tables.length := by rw [HN.out]; exact hlt
   have hji : (j : Int) < (n : Int) := by omega
   obtain ⟨b1, off1, A1, c1, ⟨rfl, hb1⟩, rc1, hc1⟩ := T1.out.at_ HS.out hlt'
   have hsn := tbs_step hlt'
   have hle := Nat.le_trans (Nat.add_le_add_right (tbs_len k.tables (j + 1)) _) HL.out
   rw [hsn, List.length_append] at hle
   have HSN := Lib.hid hsn
   have HOT := Lib.hid (HK.out.t.2 _ (List.getElem_mem hlt'))
   have RC1 := Lib.hid rc1
   have HC1 := Lib.hid hc1
   clear rc1 hc1 hsn
   generalize k.tables[j] = t at *
   obtain ⟨tn, tr, tc⟩ := t
   obtain ⟨F, hF⟩ : ∃ F, sp (tbsT (k.tables.take j)) = F := ⟨_, rfl⟩
   rw [hF] at hle HSN ⊢
   clear hF
   rw [tbHead_eq] at hle HSN
   simp only [List.length_append, List.length_cons, List.length_nil] at hle
   try dsimp only at hle
   try dsimp only at HSN
   try dsimp only at HC1
   try dsimp only at RC1
   have HOK := Lib.hid (HOT.out.c.2)
   have HR := HOT.out.r
   try dsimp only at HOK
   try dsimp only at HR
   have hnb : -9223372036854775808 ≤ tr ∧ tr ≤ 9223372036854775807 := by unfold okNum at HR; omega
   have RN : Hid (∀ w : World, Calls Tryz.prog 19 #[nv tr] w fun e w' => e = .returned (sv (decL tr ++ [32])) ∧ Below w.heap.size w w') := Lib.hid fun w => rnum_any tr w hnb.1 hnb.2
   have hdl : (decL tr ++ [32]).length ≤ 100000000 := by simp only [List.length_append, List.length_cons, List.length_nil]; omega
   have htn : tn.length ≤ 100000000 := by omega
   have hFl : F.length ≤ 100000000 := by omega
   have hcl := cols_len tc
   have kc := RC1.out.cap
   obtain ⟨nc, hnc⟩ : ∃ z, tc.length = z := ⟨_, rfl⟩
   have HNC := Lib.hid hnc
   obtain ⟨⟨x0, x1⟩, x2⟩ := HC1.out wr (fun b hB => DR.out.block b (HS.out b hB))
   try dsimp only at x2
   rw [hnc] at x2 kc
   obtain ⟨u0, u1⟩ := box2 (box_next X1.out hb.out)
   have hwz0 : w.heap.size < wr.heap.size := (Array.getElem?_eq_some_iff.1 (box_next X1.out hb.out)).1
   have hbw : b1 < wr.heap.size := by omega
   clear HR hnb HOT hnc
   go_upto_region 5 with fail
   have D4 : Below wr.heap.size wr (wr.alloc (.cells #[sv tn, nv tr, .slice A1 nc c1] 67)) := (Below.refl _ _).alloc (Nat.le_refl _) _
   obtain ⟨w4, hw4⟩ : ∃ W, wr.alloc (.cells #[sv tn, nv tr, .slice A1 nc c1] 67) = W := ⟨_, rfl⟩
   have Y1 : Hid (w4.heap[wr.heap.size]? = some (.cells #[sv tn, nv tr, .slice A1 nc c1] 67 (0, 0))) := Lib.hid (by rw [← hw4]; exact alloc_at rfl)
   rw [hw4] at D4 ⊢
   clear hw4 x0 x1 x2 u0 u1
   obtain ⟨D, hD⟩ : ∃ D, decL tr ++ [32] = D := ⟨_, rfl⟩
   rw [hD] at RN hdl HSN
   have hDl : 10 + tn.length + D.length ≤ 99999000 := by rw [← hD]; simp only [List.length_append, List.length_cons, List.length_nil]; omega
   have hle2 : F.length + (tn.length + D.length + 14) + (sp (colsT tc)).length + 2 ≤ 99999000 := by rw [← hD]; simp only [List.length_append, List.length_cons, List.length_nil]; omega
   clear hD hle
   have BD : Below w4.heap.size w4 w4.drew := (Below.refl _ _).drew
   go_wp2_with fail
   refine wp_region_sched [(0, true), (1, true), (2, true), (3, true), (4, true), (5, true), (6, true), (7, false), (8, true), (9, true), (10, true), (11, true)] (by kernel_rfl) (by kernel_rfl) (fun _ _ d _ _ h => by cases d <;> exact h) ?_
   refine swith (fun W hW => (cells3 (box_next Y1.out ((Below.refl _ _).drew.trans hW.out)))) (fun qx => ?_)
   repeat (first | (refine sreadx rfl rfl ?_; apply Exists.intro; apply And.intro; (· (intro W hW; go_simp; try (first | with_reducible rfl | (rw [if_neg (by omega)]; try with_reducible rfl)))); simp only [Act.put, List.setIfInBounds_toArray, List.set_cons_zero, List.set_cons_succ]) | (refine sskip rfl rfl ?_; simp only [Act.put, List.setIfInBounds_toArray, List.set_cons_zero, List.set_cons_succ]))
   refine scall rfl rfl (fun K hK => ?_)
   go_simp
   refine (RN.out _).mono ?_; rintro e w5 ⟨rfl, b5⟩
   go_wp2_with fail
   refine hK.out _ _ (by exact b5) ?_
   clear hK K
   try simp only [Act.put, List.setIfInBounds_toArray, List.set_cons_zero, List.set_cons_succ]
   replace qx := fun (W : World) (hW : Grow w5 W) => qx W (Grow.trans (b5) hW)
   repeat (first | (refine sreadx rfl rfl ?_; apply Exists.intro; apply And.intro; (· (intro W hW; go_simp; try (first | with_reducible rfl | (rw [if_neg (by omega)]; try with_reducible rfl)))); simp only [Act.put, List.setIfInBounds_toArray, List.set_cons_zero, List.set_cons_succ]) | (refine sskip rfl rfl ?_; simp only [Act.put, List.setIfInBounds_toArray, List.set_cons_zero, List.set_cons_succ]))
   refine sdone ?_
   have D5 := Lib.hid (bthen BD b5)
   have Y5 := Lib.hid (box_next Y1.out D5.out)
   clear qx BD b5
   obtain ⟨x0, x1, x2⟩ := cells3 Y5.out
   go_wp2_with fail
   clear x0 x1 x2
   have D45 := Lib.hid (D4.trans (D5.out.mono D4.size))
   have RC5 : Hid (RC w5 S A1 c1 tc) := Lib.hid (RC1.out.keep fun b hB => (DR.out.trans (D45.out.mono DR.out.size)).block b (HS.out b hB))
   have hz5 : w.heap.size ≤ w5.heap.size := Nat.le_trans DR.out.size D45.out.size
   obtain ⟨F2, hF2⟩ : ∃ F2, F ++ ([116, 97, 98, 108, 101, 32] ++ tn ++ [32, 114, 111, 119, 115, 32] ++ D ++ [123, 32]) = F2 := ⟨_, rfl⟩
   have HF2 := Lib.hid hF2
   have hF2l : F2.length + (sp (colsT tc)).length + 2 ≤ 99999000 := by rw [← hF2]; simp only [List.length_append, List.length_cons, List.length_nil]; omega
   clear hF2 hle2
   go_loopw [3, 33] (fun s i wr => ∃ z : Nat, z ≤ nc ∧ i = .int .i64 z ∧ s = sv (F2 ++ sp (colsT (tc.take z))) ∧ Hid (Below w5.heap.size w5 wr)) (fun _ i _ => nc - (intOf i).toNat)
   case atStart =>
    refine ⟨0, by omega, rfl, ?_, Lib.hid (Below.refl _ _)⟩
    rw [← HF2.out]
    refine Eq.trans (congrArg Value.string ?_) (svc (List.append_nil _).symm)
    simp only [ba_append]
   case round =>
    obtain ⟨z, hz, rfl, rfl, hbz⟩ := hrel
    have hzz := hbz.out.size
    have hclz := hcl z
    by_cases hzl : z < nc
    ·have hzl' : z < tc.length := by rw [HNC.out]; exact hzl
     have hzi : (z : Int) < (nc : Int) := by omega
     obtain ⟨b3, off3, ⟨rfl, hb3⟩, hc3⟩ := RC5.out.at_ HS.out hzl'
     have hst := cols_step hzl'
     have hcl1 := hcl (z + 1)
     rw [hst] at hcl1
     have HST := Lib.hid hst
     have HOC := Lib.hid (HOK.out _ (List.getElem_mem hzl'))
     generalize tc[z] = cl at *
     obtain ⟨cn, ck, cm⟩ := cl
     have HC3 := Lib.hid hc3
     clear hc3 hst
     dsimp only [colTx] at HST hcl1 HC3
     obtain ⟨G, hG⟩ : ∃ G, F2 ++ sp (colsT (tc.take z)) = G := ⟨_, rfl⟩
     have HG := Lib.hid hG
     have RTy : Hid (∀ w : World, Calls Tryz.prog 20 #[.agg #[nv ck, nv cm]] w fun e w' => e = .returned (sv (tyTx ck cm)) ∧ Below w.heap.size w w') := Lib.hid fun w => rtype_any ck cm (okC_ty HOC.out) w
     have hty : (tyTx ck cm).length ≤ 26 := tyTx_len (okC_ty HOC.out)
     simp only [List.length_append, List.length_cons, List.length_nil] at hcl1
     have hGl : G.length + cn.length + 50 ≤ 100000000 := by rw [← hG]; simp only [List.length_append]; omega
     rw [hG]
     clear hG HOC hcl1
     generalize tyTx ck cm = Y at *
     obtain ⟨⟨y0, y1⟩, y2⟩ := HC3.out wr (fun b hB => hbz.out.block b (by have := HS.out b hB; omega))
     try dsimp only at y0 y1 y2
     have hb3w : b3 < wr.heap.size := by omega
     go_upto_region 9 with fail
     have D6 : Below wr.heap.size wr (wr.alloc (.cells #[sv cn, nv ck, nv cm] 72)) := (Below.refl _ _).alloc (Nat.le_refl _) _
     obtain ⟨w6, hw6⟩ : ∃ W, wr.alloc (.cells #[sv cn, nv ck, nv cm] 72) = W := ⟨_, rfl⟩
     have Z1 : Hid (w6.heap[wr.heap.size]? = some (.cells #[sv cn, nv ck, nv cm] 72 (0, 0))) := Lib.hid (by rw [← hw6]; exact alloc_at rfl)
     rw [hw6] at D6 ⊢
     clear hw6 y0 y1 y2
     have BD : Below w6.heap.size w6 w6.drew := (Below.refl _ _).drew
     go_wp2_with fail
     refine wp_region_sched [(0, true), (1, true), (2, true), (3, true), (4, true), (5, true), (6, false), (7, true), (8, true), (9, true), (10, true)] (by kernel_rfl) (by kernel_rfl) (fun _ _ d _ _ h => by cases d <;> exact h) ?_
     refine swith (fun W hW => (cells3 (box_next Z1.out ((Below.refl _ _).drew.trans hW.out)))) (fun qx => ?_)
     repeat (first | (refine sreadx rfl rfl ?_; apply Exists.intro; apply And.intro; (· (intro W hW; go_simp; try (first | with_reducible rfl | (rw [if_neg (by omega)]; try with_reducible rfl)))); simp only [Act.put, List.setIfInBounds_toArray, List.set_cons_zero, List.set_cons_succ]) | (refine sskip rfl rfl ?_; simp only [Act.put, List.setIfInBounds_toArray, List.set_cons_zero, List.set_cons_succ]))
     refine scall rfl rfl (fun K hK => ?_)
     go_simp
     refine (RTy.out _).mono ?_; rintro e w7 ⟨rfl, b7⟩
     go_wp2_with fail
     refine hK.out _ _ (by exact b7) ?_
     clear hK K
     try simp only [Act.put, List.setIfInBounds_toArray, List.set_cons_zero, List.set_cons_succ]
     replace qx := fun (W : World) (hW : Grow w7 W) => qx W (Grow.trans (b7) hW)
     repeat (first | (refine sreadx rfl rfl ?_; apply Exists.intro; apply And.intro; (· (intro W hW; go_simp; try (first | with_reducible rfl | (rw [if_neg (by omega)]; try with_reducible rfl)))); simp only [Act.put, List.setIfInBounds_toArray, List.set_cons_zero, List.set_cons_succ]) | (refine sskip rfl rfl ?_; simp only [Act.put, List.setIfInBounds_toArray, List.set_cons_zero, List.set_cons_succ]))
     refine sdone ?_
     have D7 := Lib.hid (bthen hbz.out (bthen D6 (bthen BD b7)))
     clear qx BD b7 D6
     go_wp2_with fail
     go_roundw
     case rel =>
      refine ⟨z + 1, by omega, by go_num, ?_, D7⟩
      rw [HST.out, ← List.append_assoc, HG.out]
      refine congrArg Value.string ?_
      simp only [ba_append]
      first | done | simp
     case measure => simp [intOf]; omega
    ·obtain rfl : z = nc := by omega
     rw [List.take_of_length_le (by rw [HNC.out]; exact Nat.le_refl _)]
     obtain ⟨G, hG⟩ : ∃ G, F2 ++ sp (colsT tc) = G := ⟨_, rfl⟩
     have HG := Lib.hid hG
     have hGl : G.length + 2 ≤ 99999000 := by rw [← hG]; simp only [List.length_append]; omega
     rw [hG]
     have D8 := Lib.hid (bthen hb.out (bthen D45.out hbz.out))
     clear hG
     go_wp2_with (refine wpList_cat rfl rfl rfl rfl (by simp; omega) ?_)
     go_roundw
     case rel =>
      refine ⟨j + 1, by omega, by go_num, ?_, D8⟩
      rw [HSN.out]
      refine svc ?_
      rw [← HG.out, ← HF2.out]
      simp
     case measure => simp [intOf]; omega
  ·obtain rfl : j = n := by omega
   rw [List.take_of_length_le (by rw [HN.out]; exact Nat.le_refl _)]
   obtain ⟨F0, hF0⟩ : ∃ F0, sp (tbsT k.tables) = F0 := ⟨_, rfl⟩
   have hl0 : F0.length + (sp (pcsT k.procs)).length ≤ 99999000 := by rw [← hF0]; exact HL.out
   have HF0 := Lib.hid hF0
   rw [hF0]
   clear hF0
   replace X1 := Lib.hid (box_next X1.out hb.out)
   obtain ⟨w3, hw3⟩ : ∃ w3, w3 = wr := ⟨_, rfl⟩
   have D3 : Hid (Below w.heap.size w w3) := Lib.hid (by rw [hw3]; exact DR.out)
   rw [← hw3] at X1 ⊢
   clear hw3 hb DR hzr
   obtain ⟨u0, u1⟩ := box2 X1.out
   have hz3 := D3.out.size
   go_wp2_with fail
   clear u0 u1
   go_loopw [3, 54] (fun s i wr => ∃ j : Nat, j ≤ m ∧ i = .int .i64 j ∧ s = sv (F0 ++ sp (pcsT (k.procs.take j))) ∧ Hid (Below w3.heap.size w3 wr)) (fun _ i _ => m - (intOf i).toNat)
   case atStart => exact ⟨0, by omega, rfl, svc (List.append_nil _).symm, Lib.hid (Below.refl _ _)⟩
   case round =>
    obtain ⟨j, hj, rfl, rfl, hb⟩ := hrel
    have hzr := hb.out.size
    have DR := Lib.hid (D3.out.trans (hb.out.mono hz3))
    by_cases hlt : j < m
    ·have hlt' : j < k.procs.length := by rw [HM.out]; exact hlt
     have hji : (j : Int) < (m : Int) := by omega
     obtain ⟨b1, off1, A1, c1, B1, d1, p1, q1, r1, ⟨rfl, hb1⟩, ⟨rc1, rs1⟩, hc1⟩ := (P1.out.keep (w' := wr) fun b hB => DR.out.block b (HS.out b hB)).at_ HS.out hlt'
     have hsn := pcs_step hlt'
     have hle := Nat.le_trans (Nat.add_le_add_left (pcs_len k.procs (j + 1)) F0.length) hl0
     rw [hsn, List.length_append] at hle
     have HSN := Lib.hid hsn
     have HOT := Lib.hid (HK.out.p.2 _ (List.getElem_mem hlt'))
     have RC1 := Lib.hid rc1
     have RS1 := Lib.hid rs1
     clear rc1 rs1 hsn
     generalize k.procs[j] = t at *
     obtain ⟨tn, tp, tb⟩ := t
     obtain ⟨F, hF⟩ : ∃ F, F0 ++ sp (pcsT (k.procs.take j)) = F := ⟨_, rfl⟩
     have HF := Lib.hid hF
     have hFe : F.length = F0.length + (sp (pcsT (k.procs.take j))).length := by rw [← hF, List.length_append]
     rw [hF]
     clear hF
     rw [pcHead_eq] at hle HSN
     simp only [List.length_append, List.length_cons, List.length_nil] at hle
     dsimp only at hle HSN hc1 RC1 RS1
     have HOK := Lib.hid (HOT.out.c.2)
     have HOB := Lib.hid (HOT.out.b.1.1)
     dsimp only at HOK HOB
     have htn : tn.length ≤ 100000000 := by omega
     have hFl : F.length ≤ 100000000 := by omega
     have hbl : (blk tb).length ≤ 100000000 := by omega
     have RB := Lib.hid ((rpb_any tb).run HOB.out hbl RS1.out (fun b hB => Nat.lt_of_lt_of_le (HS.out b hB) DR.out.size))
     have hcl := ps_len tp
     have kc := RC1.out.cap
     obtain ⟨np, hnp⟩ : ∃ z, tp.length = z := ⟨_, rfl⟩
     obtain ⟨mb, hmb⟩ : ∃ z, tb.len = z := ⟨_, rfl⟩
     have HNC := Lib.hid hnp
     rw [hmb] at RB
     have x0 : wr.cell? ⟨b1, off1 + j * 6, none⟩ = some (sv tn) := hc1 0 (by omega)
     have x1 : wr.cell? ⟨b1, off1 + j * 6 + 1, none⟩ = some (.slice A1 np c1) := by rw [← hnp]; exact hc1 1 (by omega)
     have x2 : wr.cell? ⟨b1, off1 + j * 6 + 2, none⟩ = some (.slice B1 mb d1) := by rw [← hmb]; exact hc1 2 (by omega)
     have x3 : wr.cell? ⟨b1, off1 + j * 6 + 3, none⟩ = some (nv p1) := hc1 3 (by omega)
     have x4 : wr.cell? ⟨b1, off1 + j * 6 + 4, none⟩ = some (nv q1) := hc1 4 (by omega)
     have x5 : wr.cell? ⟨b1, off1 + j * 6 + 5, none⟩ = some (nv r1) := hc1 5 (by omega)
     rw [hnp] at kc
     obtain ⟨u0, u1⟩ := box2 (box_next X1.out hb.out)
     have hwz0 : w.heap.size < wr.heap.size := (Array.getElem?_eq_some_iff.1 (box_next X1.out hb.out)).1
     have hbw : b1 < wr.heap.size := by omega
     clear HOT hnp hmb hc1
     go_upto_region 16 with fail
     have D4 : Below wr.heap.size wr (wr.alloc (.cells #[sv tn, .slice A1 np c1, .slice B1 mb d1, nv p1, nv q1, nv r1] 49)) := (Below.refl _ _).alloc (Nat.le_refl _) _
     obtain ⟨w5, hw5⟩ : ∃ W, wr.alloc (.cells #[sv tn, .slice A1 np c1, .slice B1 mb d1, nv p1, nv q1, nv r1] 49) = W := ⟨_, rfl⟩
     have Y5 : Hid (w5.heap[wr.heap.size]? = some (.cells #[sv tn, .slice A1 np c1, .slice B1 mb d1, nv p1, nv q1, nv r1] 49 (0, 0))) := Lib.hid (by rw [← hw5]; exact alloc_at rfl)
     rw [hw5] at D4 ⊢
     clear hw5 x0 x1 x2 x3 x4 x5 u0 u1
     have D45 := Lib.hid D4
     have hz4 := D4.size
     clear D4
     obtain ⟨⟨⟨x0, x1⟩, x2, x3⟩, x4, x5⟩ := box6 Y5.out
     go_wp2_with (refine wpList_cat rfl rfl rfl rfl (by simp; omega) ?_)
     clear x0 x1 x2 x3 x4 x5
     have RC5 : Hid (RC w5 S A1 c1 tp) := Lib.hid (RC1.out.keep fun b hB => D45.out.block b (by have := HS.out b hB; omega))
     obtain ⟨F2, hF2⟩ : ∃ F2, F ++ 112 :: 114 :: 111 :: 99 :: 32 :: (tn ++ [32, 40, 32]) = F2 := ⟨_, rfl⟩
     have HF2 := Lib.hid hF2
     have hF2l : F2.length + (sp (toksPs tp)).length + 2 + (blk tb).length ≤ 99999000 := by rw [← hF2]; simp only [List.length_append, List.length_cons, List.length_nil]; omega
     rw [hF2]
     clear hF2 hle
     go_loopw [3, 67] (fun s i wr => ∃ z : Nat, z ≤ np ∧ i = .int .i64 z ∧ s = sv (F2 ++ sp (toksPs (tp.take z))) ∧ Hid (Below w5.heap.size w5 wr)) (fun _ i _ => np - (intOf i).toNat)
     case atStart => exact ⟨0, by omega, rfl, svc (List.append_nil _).symm, Lib.hid (Below.refl _ _)⟩
     case round =>
      obtain ⟨z, hz, rfl, rfl, hbz⟩ := hrel
      have hzz := hbz.out.size
      have hclz := hcl z
      by_cases hzl : z < np
      ·have hzl' : z < tp.length := by rw [HNC.out]; exact hzl
       have hzi : (z : Int) < (np : Int) := by omega
       obtain ⟨b3, off3, ⟨rfl, hb3⟩, hc3⟩ := RC5.out.at_ HS.out hzl'
       have HST1 := Lib.hid (fun h0 : 0 < tp.length => ps_first h0)
       have HST2 := Lib.hid (fun h0 : 0 < z => ps_next hzl' h0)
       have hcl1 := hcl (z + 1)
       have HOC := Lib.hid (HOK.out _ (List.getElem_mem hzl'))
       have HZ0 : Hid (∀ h0 : z = 0, tp[z] = tp[0]'(by omega)) := Lib.hid fun h0 => by subst h0; rfl
       generalize tp[z] = cl at *
       obtain ⟨cn, ck, cm⟩ := cl
       have HC3 := Lib.hid hc3
       clear hc3
       dsimp only [colTx] at HST2 HC3
       have RTy : Hid (∀ w : World, Calls Tryz.prog 20 #[.agg #[nv ck, nv cm]] w fun e w' => e = .returned (sv (tyTx ck cm)) ∧ Below w.heap.size w w') := Lib.hid fun w => rtype_any ck cm (okC_ty HOC.out) w
       have hty : (tyTx ck cm).length ≤ 26 := tyTx_len (okC_ty HOC.out)
       clear HOC
       obtain ⟨⟨y0, y1⟩, y2⟩ := HC3.out wr (fun b hB => hbz.out.block b (by have := HS.out b hB; omega))
       try dsimp only at y0 y1 y2
       have hb3w : b3 < wr.heap.size := by omega
       by_cases h0 : z = 0
       ·subst h0
        have HST : Hid (sp (toksPs (tp.take (0 + 1))) = cn ++ [32] ++ tyTx ck cm ++ [32]) := Lib.hid (by rw [HST1.out hzl', ← HZ0.out rfl]; rfl)
        have hcl2 := hcl1
        rw [HST.out] at hcl2
        simp only [List.length_append, List.length_cons, List.length_nil] at hcl2
        clear HST1 HST2 HZ0 hcl1
        generalize tyTx ck cm = Y at *
        rw [List.take_zero, show sp (toksPs []) = [] from rfl, List.append_nil]
        obtain ⟨G, HGq⟩ : ∃ G, Hid (F2 = G) := ⟨_, Lib.hid rfl⟩
        have HG2 : Hid (G ++ (cn ++ [32] ++ Y ++ [32]) = F2 ++ (cn ++ [32] ++ Y ++ [32])) := Lib.hid (by rw [HGq.out])
        have hGl : G.length + cn.length + 50 ≤ 100000000 := by rw [← HGq.out]; omega
        simp only [Nat.zero_mul, Nat.add_zero] at y0 y1 y2
        rw [HGq.out]
        go_upto_region 20 with fail
        have D6 : Below wr.heap.size wr (wr.alloc (.cells #[sv cn, nv ck, nv cm] 72)) := (Below.refl _ _).alloc (Nat.le_refl _) _
        obtain ⟨w6, hw6⟩ : ∃ W, wr.alloc (.cells #[sv cn, nv ck, nv cm] 72) = W := ⟨_, rfl⟩
        have Z1 : Hid (w6.heap[wr.heap.size]? = some (.cells #[sv cn, nv ck, nv cm] 72 (0, 0))) := Lib.hid (by rw [← hw6]; exact alloc_at rfl)
        rw [hw6] at D6 ⊢
        clear hw6 y0 y1 y2
        have BD : Below w6.heap.size w6 w6.drew := (Below.refl _ _).drew
        go_wp2_with fail
        refine wp_region_sched [(0, true), (1, true), (2, true), (3, true), (4, true), (5, true), (6, false), (7, true), (8, true), (9, true), (10, true)] (by kernel_rfl) (by kernel_rfl) (fun _ _ d _ _ h => by cases d <;> exact h) ?_
        refine swith (fun W hW => (cells3 (box_next Z1.out ((Below.refl _ _).drew.trans hW.out)))) (fun qx => ?_)
        repeat (first | (refine sreadx rfl rfl ?_; apply Exists.intro; apply And.intro; (· (intro W hW; go_simp; try (first | with_reducible rfl | (rw [if_neg (by omega)]; try with_reducible rfl)))); simp only [Act.put, List.setIfInBounds_toArray, List.set_cons_zero, List.set_cons_succ]) | (refine sskip rfl rfl ?_; simp only [Act.put, List.setIfInBounds_toArray, List.set_cons_zero, List.set_cons_succ]))
        refine scall rfl rfl (fun K hK => ?_)
        go_simp
        refine (RTy.out _).mono ?_; rintro e w7 ⟨rfl, b7⟩
        go_wp2_with fail
        refine hK.out _ _ (by exact b7) ?_
        clear hK K
        try simp only [Act.put, List.setIfInBounds_toArray, List.set_cons_zero, List.set_cons_succ]
        replace qx := fun (W : World) (hW : Grow w7 W) => qx W (Grow.trans (b7) hW)
        repeat (first | (refine sreadx rfl rfl ?_; apply Exists.intro; apply And.intro; (· (intro W hW; go_simp; try (first | with_reducible rfl | (rw [if_neg (by omega)]; try with_reducible rfl)))); simp only [Act.put, List.setIfInBounds_toArray, List.set_cons_zero, List.set_cons_succ]) | (refine sskip rfl rfl ?_; simp only [Act.put, List.setIfInBounds_toArray, List.set_cons_zero, List.set_cons_succ]))
        refine sdone ?_
        have D7 := Lib.hid (bthen hbz.out (bthen D6 (bthen BD b7)))
        clear qx BD b7 D6
        go_wp2_with fail
        go_roundw
        case rel =>
         refine ⟨0 + 1, by omega, by go_num, ?_, D7⟩
         rw [HST.out]
         refine Eq.trans (congrArg Value.string ?_) rfl
         simp only [ba_append]
         first | done | simp
        case measure => simp [intOf]; omega
       ·have h0' : 0 < z := by omega
        have HST := Lib.hid (HST2.out h0')
        have hcl2 := hcl1
        rw [HST.out] at hcl2
        simp only [List.length_append, List.length_cons, List.length_nil] at hcl2
        clear HST1 HST2 HZ0 hcl1
        generalize tyTx ck cm = Y at *
        obtain ⟨G, hG⟩ : ∃ G, F2 ++ sp (toksPs (tp.take z)) = G := ⟨_, rfl⟩
        have HG2 : Hid (G ++ ([44, 32] ++ (cn ++ [32] ++ Y ++ [32])) = F2 ++ (sp (toksPs (tp.take z)) ++ ([44, 32] ++ (cn ++ [32] ++ Y ++ [32])))) := Lib.hid (by rw [← hG, List.append_assoc])
        have hGl : G.length + cn.length + 50 ≤ 100000000 := by rw [← hG]; simp only [List.length_append]; omega
        rw [hG]
        clear hG
        go_upto_region 20 with fail
        have D6 : Below wr.heap.size wr (wr.alloc (.cells #[sv cn, nv ck, nv cm] 72)) := (Below.refl _ _).alloc (Nat.le_refl _) _
        obtain ⟨w6, hw6⟩ : ∃ W, wr.alloc (.cells #[sv cn, nv ck, nv cm] 72) = W := ⟨_, rfl⟩
        have Z1 : Hid (w6.heap[wr.heap.size]? = some (.cells #[sv cn, nv ck, nv cm] 72 (0, 0))) := Lib.hid (by rw [← hw6]; exact alloc_at rfl)
        rw [hw6] at D6 ⊢
        clear hw6 y0 y1 y2
        have hz0i : (0 : Int) < (z : Int) := by omega
        have BD : Below w6.heap.size w6 w6.drew := (Below.refl _ _).drew
        go_wp2_with fail
        refine wp_region_sched [(0, true), (1, true), (2, true), (3, true), (4, true), (5, true), (6, false), (7, true), (8, true), (9, true), (10, true)] (by kernel_rfl) (by kernel_rfl) (fun _ _ d _ _ h => by cases d <;> exact h) ?_
        refine swith (fun W hW => (cells3 (box_next Z1.out ((Below.refl _ _).drew.trans hW.out)))) (fun qx => ?_)
        repeat (first | (refine sreadx rfl rfl ?_; apply Exists.intro; apply And.intro; (· (intro W hW; go_simp; try (first | with_reducible rfl | (rw [if_neg (by omega)]; try with_reducible rfl)))); simp only [Act.put, List.setIfInBounds_toArray, List.set_cons_zero, List.set_cons_succ]) | (refine sskip rfl rfl ?_; simp only [Act.put, List.setIfInBounds_toArray, List.set_cons_zero, List.set_cons_succ]))
        refine scall rfl rfl (fun K hK => ?_)
        go_simp
        refine (RTy.out _).mono ?_; rintro e w7 ⟨rfl, b7⟩
        go_wp2_with fail
        refine hK.out _ _ (by exact b7) ?_
        clear hK K
        try simp only [Act.put, List.setIfInBounds_toArray, List.set_cons_zero, List.set_cons_succ]
        replace qx := fun (W : World) (hW : Grow w7 W) => qx W (Grow.trans (b7) hW)
        repeat (first | (refine sreadx rfl rfl ?_; apply Exists.intro; apply And.intro; (· (intro W hW; go_simp; try (first | with_reducible rfl | (rw [if_neg (by omega)]; try with_reducible rfl)))); simp only [Act.put, List.setIfInBounds_toArray, List.set_cons_zero, List.set_cons_succ]) | (refine sskip rfl rfl ?_; simp only [Act.put, List.setIfInBounds_toArray, List.set_cons_zero, List.set_cons_succ]))
        refine sdone ?_
        have D7 := Lib.hid (bthen hbz.out (bthen D6 (bthen BD b7)))
        clear qx BD b7 D6
        go_wp2_with fail
        go_roundw
        case rel =>
         refine ⟨z + 1, by omega, by go_num, ?_, D7⟩
         rw [HST.out]
         refine Eq.trans (congrArg Value.string ?_) (svc HG2.out)
         simp only [ba_append]
         first | done | simp
        case measure => simp [intOf]; omega
      ·obtain rfl : z = np := by omega
       rw [List.take_of_length_le (by rw [HNC.out]; exact Nat.le_refl _)]
       obtain ⟨G, hG⟩ : ∃ G, F2 ++ sp (toksPs tp) = G := ⟨_, rfl⟩
       have HG := Lib.hid hG
       have hGl : G.length + 2 + (blk tb).length ≤ 99999000 := by rw [← hG]; simp only [List.length_append]; omega
       rw [hG]
       clear hG
       have D8 := Lib.hid (bthen D45.out hbz.out)
       obtain ⟨⟨⟨x0, x1⟩, x2, x3⟩, x4, x5⟩ := box6 (box_next Y5.out hbz.out)
       go_wp2_with fail
       refine (RB.out wr D8.out).mono ?_; rintro e w9 ⟨rfl, b9⟩
       have D9 := Lib.hid (bthen hb.out (bthen D8.out b9))
       clear x0 x1 x2 x3 x4 x5
       generalize blk tb = Q at *
       go_wp2_with (refine wpList_cat rfl rfl rfl rfl (by simp; omega) ?_)
       go_roundw
       case rel =>
        refine ⟨j + 1, by omega, by go_num, ?_, D9⟩
        rw [HSN.out]
        refine svc ?_
        rw [← HG.out, ← HF2.out, ← HF.out]
        simp
       case measure => simp [intOf]; omega
    ·obtain rfl : j = m := by omega
     rw [List.take_of_length_le (by rw [HM.out]; exact Nat.le_refl _)]
     have hall : F0 ++ sp (pcsT k.procs) = sp (toksW k) := by
      rw [← HF0.out, ← sp_app]; rfl
     have hlen : (sp (toksW k)).length ≤ 99999000 := by rw [← hall, List.length_append]; exact hl0
     rw [hall]
     by_cases h0 : toksW k = []
     ·have hR0 : R = [] := by rw [← HR.out, h0]; rfl
      rw [h0, sp_nil]
      subst hR0
      clear hall hlen h0
      go_wp2_with fail
      go_ret
      exact ⟨rfl, DR.out⟩
     ·have e := sp_textOf h0
      rw [HR.out] at e
      rw [e] at hlen ⊢
      clear hall h0 e
      have hR1 : R.length ≤ 99999000 := by simp at hlen; omega
      have hcut := cut_at (R ++ [32]) 0 R.length R.length (by omega)
      rw [List.drop_zero, List.take_left' rfl] at hcut
      have hsz : (ByteArray.mk (R ++ [32]).toArray).size = R.length + 1 := by simp [ByteArray.size]
      have hpos : (0 : Int) < ((R.length : Int) + 1) := by omega
      clear hlen
      go_wp2_with fail
      go_ret
      exact ⟨rfl, DR.out⟩
end Go.Proofs.YtnbmpfdffoidaaaGreat.Y
