/- Texts of the proof, joined: SynPar2, SynLives, ValParse, ValRParse. -/
import Derived.Test.YtnbmpfdffoidaaaGreatEx01
import Derived.Test.YtnbmpfdffoidaaaGreatEx05
import Derived.Test.YtnbmpfdffoidaaaGreatEx08
import Derived.Test.YtnbmpfdffoidaaaGreatEx09
import Derived.Test.YtnbmpfdffoidaaaGreatEx12
import Derived.Test.YtnbmpfdffoidaaaGreatEx26
import Derived.IntWalk
import Derived.RegionTactic
import Derived.ChangeAlike
set_option linter.unusedVariables false
set_option linter.unusedSimpArgs false
set_option maxHeartbeats 8000000
set_option maxRecDepth 100000
namespace Go.Proofs.YtnbmpfdffoidaaaGreat.Y
open Go.RowKit O V S X
theorem own_cap2 {w : World} {base e size n c : Nat} {A : Option Addr} {xs : List Value} (h : w.ownsRow base e size (.slice A n c) n xs) : n ≤ c ∧ c ≤ 9223372036854775807 := by
 rcases h.2 with ⟨hv, h0⟩ | ⟨g, cap, cur, hv, _, _, hnc, hm, _⟩
 ·injection hv with _ _ hc
  omega
 ·injection hv with _ _ hc
  unfold maxLen at hm
  omega
theorem all_y (s : List UInt8) (w : World) (hs : s.length ≤ 16384) : Calls Tryz.prog 15 #[.string ⟨s.toArray⟩] w fun e w' => (∃ A n c er a b d, e = .returned (.tuple #[.slice A n c, .int .i64 er, .agg #[nv a, nv b, nv d]]) ∧ AllX s A n er a b d w' ∧ (n ≤ c ∧ c ≤ 9223372036854775807) ∧ ∀ p, A = some p → w.heap.size ≤ p.block) ∧ Below w.heap.size w w' := by
 obtain ⟨o, hu, ho⟩ := LexU.of_lex s
 have hlen := hu.len
 refine (all_any s w (by omega)).mono fun e w' ⟨h, b⟩ => ⟨?_, b⟩
 unfold RetAll at h
 rw [if_neg (by omega)] at h
 by_cases he : (lexS s (s.length + 1) 0).2.1 = 0
 ·rw [if_neg (by simp [he])] at h
  obtain ⟨A, n, c, xs, rfl, h1, h2⟩ := h
  have hr := Rd.of_own h1
  have hl := hr.len_of TkC.size h2 (by omega)
  rw [List.length_map] at hlen
  exact ⟨A, n, c, 0, 0, 0, 0, rfl, ⟨_, o, by rw [he] at hu; exact hu, fun _ => ⟨rfl, rfl, rfl, _, rfl, ⟨⟨xs, hr, h2.imp (TkD.of (s := s))⟩, by omega⟩⟩, fun h => absurd rfl h⟩, own_cap2 h1, fun p hp => by subst hp; have := (h1.lt p.block rfl).1; omega⟩
 ·rw [if_pos he] at h
  have hoff := ho he
  subst h
  have hcl : clampI s ((lexS s (s.length + 1) 0).2.2 : Nat) = s.length - o := by unfold clampI; rw [if_neg (by omega), if_neg (by omega)]; omega
  rw [hcl]
  exact ⟨none, 0, 0, (lexS s (s.length + 1) 0).2.1, _, _, _, rfl, ⟨_, o, hu, fun h => absurd h he, fun _ => ⟨rfl, by omega, rfl⟩⟩, ⟨by omega, by omega⟩, fun p hp => by cases hp⟩
theorem one_newY {w : World} {o : Obj} {k : Nat} (h : k < w.heap.size) : (w.alloc o).heap[k]? = w.heap[k]? := ((Below.refl w.heap.size w).alloc (Nat.le_refl _) o).block k h
def parseT (l : List Tok) : Res Wk := pWork (4 * l.length + 8) l
def noW : Value := .agg #[.slice none 0 0, .slice none 0 0]
def RetP (s : List UInt8) (lo : Nat) (e : Ending) (w' : World) : Prop := ∃ (v : Value) (er p q r : Int) (l : List Tok) (o : Nat) (er0 : Int), e = .returned (.tuple #[v, nv er, .agg #[nv p, nv q, nv r]]) ∧ LexU s l er0 o ∧
 (er0 ≠ 0 → er ≠ 0 ∧ v = noW) ∧ (er0 = 0 → match parseT l with
  | .ok k _ => er = 0 ∧ ∃ S, WkR w' S k v ∧ In lo w' S
  | _ => er ≠ 0 ∧ v = noW)
theorem parse_any (s : List UInt8) (w : World) (hs : s.length ≤ 16384) : Calls Tryz.prog 5 #[.string ⟨s.toArray⟩] w fun e w' => RetP s w.heap.size e w' ∧ Below w.heap.size w w' := by
 have hmf : ∀ (fn : Fn) (first cap : Array Value) (w : World), (Instr.makeFunc fn first cap).run Tryz.prog w = .ok (.func fn first cap) w := fun _ _ _ _ => rfl
 go_enter_defers Tryz.func5, Tryz.ntmps5
 go_wp2_with fail
 obtain ⟨w1, hw1⟩ : ∃ W, ((w.alloc (.cells #[.slice none 0 0, .slice none 0 0] 26)).alloc (.cells #[.int .i64 0] 27)).alloc (.cells #[.int .i64 0, .int .i64 0, .int .i64 0] 29) = W := ⟨_, rfl⟩
 have hb1 : Below w.heap.size w w1 := by rw [← hw1]; repeat (first | exact Below.refl _ _ | refine Below.alloc ?_ (by simp <;> omega) _)
 have X2 : w1.heap[w.heap.size]? = some (.cells #[.slice none 0 0, .slice none 0 0] 26 (0, 0)) := by rw [← hw1]; exact alloc_old' (alloc_old' (alloc_at rfl))
 have X3 : w1.heap[w.heap.size + 1]? = some (.cells #[.int .i64 0] 27 (0, 0)) := by rw [← hw1]; exact alloc_old' (alloc_at (by simp))
 have X4 : w1.heap[w.heap.size + 1 + 1]? = some (.cells #[.int .i64 0, .int .i64 0, .int .i64 0] 29 (0, 0)) := by rw [← hw1]; exact alloc_at (by simp)
 rw [hw1]
 clear hw1
 refine (all_y s w1 hs).mono ?_; rintro e w2 ⟨⟨A, n, c, er, a, b, d, rfl, hx, hn, hA⟩, b2⟩
 have hz0 : w.heap.size + 1 + 1 < w1.heap.size := (Array.getElem?_eq_some_iff.1 X4).1
 have hz2 := b2.size
 have B2 := Lib.hid (hb1.trans (b2.mono hb1.size))
 replace X2 := Lib.hid (box_next X2 b2)
 replace X3 := Lib.hid (box_next X3 b2)
 replace X4 := Lib.hid (box_next X4 b2)
 clear hb1 b2
 have y20 : w2.cell? ⟨w.heap.size, 0, none⟩ = some (.slice none 0 0) := by rw [Lib.cell_of_heap X2.out]; rfl
 have y21 : w2.cell? ⟨w.heap.size, 1, none⟩ = some (.slice none 0 0) := by rw [Lib.cell_of_heap X2.out]; rfl
 have y3 : w2.cell? ⟨w.heap.size + 1, 0, none⟩ = some (.int .i64 0) := by rw [Lib.cell_of_heap X3.out]; rfl
 have y40 : w2.cell? ⟨w.heap.size + 1 + 1, 0, none⟩ = some (.int .i64 0) := by rw [Lib.cell_of_heap X4.out]; rfl
 have y41 : w2.cell? ⟨w.heap.size + 1 + 1, 1, none⟩ = some (.int .i64 0) := by rw [Lib.cell_of_heap X4.out]; rfl
 have y42 : w2.cell? ⟨w.heap.size + 1 + 1, 2, none⟩ = some (.int .i64 0) := by rw [Lib.cell_of_heap X4.out]; rfl
 have yf20 := Lib.frozen_of_heap X2.out 0
 have yf21 := Lib.frozen_of_heap X2.out 1
 have yf30 := Lib.frozen_of_heap X3.out 0
 have yf40 := Lib.frozen_of_heap X4.out 0
 have yf41 := Lib.frozen_of_heap X4.out 1
 have yf42 := Lib.frozen_of_heap X4.out 2
 have HX := Lib.hid hx
 have HA := Lib.hid hA
 have hz1 : w.heap.size + 1 + 1 < w1.heap.size := hz0
 have hz12 : w1.heap.size ≤ w2.heap.size := hz2
 clear hA
 have HN := Lib.hid hn
 clear hx hn
 have hz : w.heap.size + 1 + 1 < w2.heap.size := (Array.getElem?_eq_some_iff.1 X4.out).1
 by_cases h0 : er = 0
 ·subst h0
  go_wp2_with fail
  obtain ⟨V, hV⟩ : ∃ V, (((w2.setCell ⟨w.heap.size + 1, 0, none⟩ (.int .i64 0)).setCell ⟨w.heap.size + 1 + 1, 0, none⟩ (.int .i64 a)).setCell ⟨w.heap.size + 1 + 1, 1, none⟩ (.int .i64 b)).setCell ⟨w.heap.size + 1 + 1, 2, none⟩ (.int .i64 d) = V := ⟨_, rfl⟩
  have Z2 : V.heap[w.heap.size]? = some (.cells #[.slice none 0 0, .slice none 0 0] 26 (0, 0)) := by
   rw [← hV]
   exact box_setY (box_setY (box_setY (box_setY X2.out _ _ (by omega) _) _ _ (by omega) _) _ _ (by omega) _) _ _ (by omega) _
  have Z3 : V.heap[w.heap.size + 1]? = some (.cells #[.int .i64 0] 27 (0, 0)) := by
   rw [← hV]
   exact box_setY (box_setY (box_setY (heap_set (i := 0) X3.out (.int .i64 0)) _ _ (by omega) _) _ _ (by omega) _) _ _ (by omega) _
  have Z4 : V.heap[w.heap.size + 1 + 1]? = some (.cells #[.int .i64 a, .int .i64 b, .int .i64 d] 29 (0, 0)) := by
   rw [← hV]
   exact heap_set (i := 2) (heap_set (i := 1) (heap_set (i := 0) (box_setY X4.out _ _ (by omega) _) (.int .i64 a)) (.int .i64 b)) (.int .i64 d)
  have hVk : ∀ k, w1.heap.size ≤ k → V.heap[k]? = w2.heap[k]? := fun k hk => by
   rw [← hV]
   rw [Below.heap_setCell _ _ _ _ (by simp only; omega), Below.heap_setCell _ _ _ _ (by simp only; omega), Below.heap_setCell _ _ _ _ (by simp only; omega), Below.heap_setCell _ _ _ _ (by simp only; omega)]
  have hVs : V.heap.size = w2.heap.size := by rw [← hV]; simp
  have BV : Hid (Below w.heap.size w V) := Lib.hid (by
   rw [← hV]
   repeat (first | (with_reducible exact B2.out) | refine Below.setCell ?_ (by simp only; omega) _))
  rw [hV]
  clear hV X2 X3 X4 y20 y21 y3 y40 y41 y42 yf20 yf21 yf30 yf40 yf41 yf42
  refine (at_any s s.length V (by omega)).mono ?_; rintro e w3 ⟨rfl, b3⟩
  have hcl : plc s (clampI s (s.length : Nat)) = .agg #[nv (s.length : Nat), nv (lineOf s s.length : Nat), nv ((s.length : Int) - (startOf s s.length : Int) + 1)] := by
   have : clampI s (s.length : Nat) = s.length := by unfold clampI; rw [if_neg (by omega), if_neg (by omega)]; omega
   rw [this]; rfl
  rw [hcl]
  obtain ⟨pl, hpl⟩ : ∃ z : Int, z = (lineOf s s.length : Nat) := ⟨_, rfl⟩
  obtain ⟨pc, hpc⟩ : ∃ z : Int, z = ((s.length : Int) - (startOf s s.length : Int) + 1) := ⟨_, rfl⟩
  rw [← hpl, ← hpc]
  clear hcl hpl hpc
  replace Z2 := Lib.hid (box_next Z2 b3)
  replace Z3 := Lib.hid (box_next Z3 b3)
  replace Z4 := Lib.hid (box_next Z4 b3)
  have hs3 := b3.size
  have K3 : Hid (∀ k, w1.heap.size ≤ k → k < w2.heap.size → w3.heap[k]? = w2.heap[k]?) := Lib.hid fun k h1 h2 => (b3.block k (by omega)).trans (hVk k h1)
  have B3 := Lib.hid (BV.out.trans (b3.mono BV.out.size))
  clear b3 hVk BV
  go_wp2_with fail
  obtain ⟨w4, hw4⟩ : ∃ W, w3.alloc (Obj.cells #[.slice A n c, nv (s.length : Nat), nv pl, nv pc, .int .i64 0] 64) = W := ⟨_, rfl⟩
  obtain ⟨l, o, hu, hx1, _⟩ := HX.out
  obtain ⟨rfl, rfl, rfl, l', hm, hr⟩ := hx1 rfl
  have hps : Ps w4 w3.heap.size 0 l := by
   rw [← hw4]
   refine ⟨A, n, c, (s.length : Nat), pl, pc, alloc_at rfl, ⟨?_, HN.out⟩, (Y.LexU.z hu).1.w, fun t ht => by have := Y.LexU.txt hu t ht; omega⟩
   obtain ⟨xs, h1, h2⟩ := hr.rd
   refine ⟨xs, ⟨h1.1, fun hp => ?_⟩, hm ▸ tks_core h2⟩
   obtain ⟨b, off, e, hb, hc⟩ := h1.2 hp
   refine ⟨b, off, e, by omega, fun j hj => ?_⟩
   have hbA := HA.out _ e
   refine (World.cell?_of_block (a := ⟨b, off + j, none⟩) ?_).trans (hc j hj)
   rw [← K3.out b hbA hb]
   exact one_newY (by simp only; omega)
  have B4 : Hid (Below w.heap.size w w4) := Lib.hid (by rw [← hw4]; exact B3.out.alloc (by omega) _)
  replace Z2 : Hid (w4.heap[w.heap.size]? = some (.cells #[.slice none 0 0, .slice none 0 0] 26 (0, 0))) := Lib.hid (by rw [← hw4]; exact alloc_old' Z2.out)
  replace Z3 : Hid (w4.heap[w.heap.size + 1]? = some (.cells #[.int .i64 0] 27 (0, 0))) := Lib.hid (by rw [← hw4]; exact alloc_old' Z3.out)
  replace Z4 : Hid (w4.heap[w.heap.size + 1 + 1]? = some (.cells #[.int .i64 0, .int .i64 0, .int .i64 0] 29 (0, 0))) := Lib.hid (by rw [← hw4]; exact alloc_old' Z4.out)
  have hs4 : w3.heap.size < w4.heap.size := by rw [← hw4]; simp
  rw [hw4]
  clear hw4 hr hm HX hx1 K3
  have hno : parseT l ≠ .oof := fun h => by
   have := work_snd (f := 4 * l.length + 8) (Y.LexU.z hu).1.w (Nat.le_refl _)
   rw [show pWork (4 * l.length + 8) l = .oof from h] at this
   exact this
  have HU := Lib.hid hu
  refine (work_any (4 * l.length + 8) w3.heap.size l w4 hps hno).mono ?_; rintro e w5 hN
  have m := Lib.hid hN.1
  have Q5 : Hid (Below w.heap.size w w5) := Lib.hid (B4.out.trans (m.out.below (by omega) (fun x hx => by simp at hx; omega)))
  replace Z2 := Lib.hid (m.out.box Z2.out (by simp; omega))
  replace Z3 := Lib.hid (m.out.box Z3.out (by simp; omega))
  replace Z4 := Lib.hid (m.out.box Z4.out (by simp; omega))
  have hs5 := m.out.size
  rcases hN.parts with ⟨hp, er, ep, eq, ez, hne, rfl⟩ | ⟨k, r, v, hp, pN, rfl, hg⟩
  ·clear hN hps
   have HNE := Lib.hid hne
   have HP := Lib.hid hp
   clear hne hp
   go_wp2_with fail
   refine leaves_cons (f := 16) (args := #[.pointer (some ⟨w.heap.size, 0, none⟩), .pointer (some ⟨w.heap.size + 1, 0, none⟩), .pointer (some ⟨w.heap.size + 1 + 1, 0, none⟩)]) (by simp) (by simp [go_sem]) ?_
   refine (parse1_fault _ _ _ er ep eq ez _ _ _ _ _ _ w5 Z2.out Z3.out Z4.out (by omega) (by omega)).mono ?_
   rintro e u' w6 ⟨rfl, rfl, m6, q2, q3, q4⟩
   have hfin : RetP s w.heap.size (.returned (.tuple #[noW, nv er, .agg #[nv ep, nv eq, nv ez]])) w6 ∧ Below w.heap.size w w6 := by
    refine ⟨⟨noW, er, ep, eq, ez, l, o, 0, rfl, HU.out, fun h => absurd rfl h, fun _ => ?_⟩, Q5.out.trans (m6.below (by have := Q5.out.size; omega) (fun x hx => by simp at hx; omega))⟩
    rw [show parseT l = .bad from HP.out]
    exact ⟨HNE.out, rfl⟩
   have HF := Lib.hid hfin
   clear hfin
   have y20 : w6.cell? ⟨w.heap.size, 0, none⟩ = some (.slice none 0 0) := by rw [Lib.cell_of_heap q2]; rfl
   have y21 : w6.cell? ⟨w.heap.size, 1, none⟩ = some (.slice none 0 0) := by rw [Lib.cell_of_heap q2]; rfl
   have y3 : w6.cell? ⟨w.heap.size + 1, 0, none⟩ = some (.int .i64 er) := by rw [Lib.cell_of_heap q3]; rfl
   have y40 : w6.cell? ⟨w.heap.size + 1 + 1, 0, none⟩ = some (.int .i64 ep) := by rw [Lib.cell_of_heap q4]; rfl
   have y41 : w6.cell? ⟨w.heap.size + 1 + 1, 1, none⟩ = some (.int .i64 eq) := by rw [Lib.cell_of_heap q4]; rfl
   have y42 : w6.cell? ⟨w.heap.size + 1 + 1, 2, none⟩ = some (.int .i64 ez) := by rw [Lib.cell_of_heap q4]; rfl
   simp [Leaves, settle, results, Tryz.results5, go_sem, y20, y21, y3, y40, y41, y42]
   exact HF.out
  ·obtain ⟨S, ⟨A', c', es, B', d', fs, rfl, r1, r2, r3⟩, hin⟩ := hg
   have HG : Hid (WkR w5 S k (.agg #[.slice A' k.tables.length c', .slice B' k.procs.length d']) ∧ In w4.heap.size w5 S) := Lib.hid ⟨⟨A', c', es, B', d', fs, rfl, r1, r2, r3⟩, hin⟩
   have HP := Lib.hid hp
   clear hN hps r1 r2 r3 hin hp pN
   have yf20 := Lib.frozen_of_heap Z2.out 0
   have yf21 := Lib.frozen_of_heap Z2.out 1
   have yf30 := Lib.frozen_of_heap Z3.out 0
   have yf40 := Lib.frozen_of_heap Z4.out 0
   have yf41 := Lib.frozen_of_heap Z4.out 1
   have yf42 := Lib.frozen_of_heap Z4.out 2
   have y20 : w5.cell? ⟨w.heap.size, 0, none⟩ = some (.slice none 0 0) := by rw [Lib.cell_of_heap Z2.out]; rfl
   have y21 : w5.cell? ⟨w.heap.size, 1, none⟩ = some (.slice none 0 0) := by rw [Lib.cell_of_heap Z2.out]; rfl
   have y3 : w5.cell? ⟨w.heap.size + 1, 0, none⟩ = some (.int .i64 0) := by rw [Lib.cell_of_heap Z3.out]; rfl
   have y40 : w5.cell? ⟨w.heap.size + 1 + 1, 0, none⟩ = some (.int .i64 0) := by rw [Lib.cell_of_heap Z4.out]; rfl
   have y41 : w5.cell? ⟨w.heap.size + 1 + 1, 1, none⟩ = some (.int .i64 0) := by rw [Lib.cell_of_heap Z4.out]; rfl
   have y42 : w5.cell? ⟨w.heap.size + 1 + 1, 2, none⟩ = some (.int .i64 0) := by rw [Lib.cell_of_heap Z4.out]; rfl
   go_wp2_with fail
   refine leaves_cons (f := 16) (args := #[.pointer (some ⟨w.heap.size, 0, none⟩), .pointer (some ⟨w.heap.size + 1, 0, none⟩), .pointer (some ⟨w.heap.size + 1 + 1, 0, none⟩)]) (by simp) (by simp [go_sem]) ?_
   refine (parse1_idle _ _ _ _).mono ?_
   rintro e u' w6 ⟨rfl, rfl, rfl⟩
   have q2 := box_setY (box_setY (box_setY (box_setY (heap_set (i := 1) (heap_set (i := 0) Z2.out (.slice A' k.tables.length c')) (.slice B' k.procs.length d')) (w.heap.size + 1) 0 (by omega) (.int .i64 0)) (w.heap.size + 1 + 1) 0 (by omega) (.int .i64 0)) (w.heap.size + 1 + 1) 1 (by omega) (.int .i64 0)) (w.heap.size + 1 + 1) 2 (by omega) (.int .i64 0)
   have q3 := box_setY (box_setY (box_setY (heap_set (i := 0) (box_setY (box_setY Z3.out w.heap.size 0 (by omega) (.slice A' k.tables.length c')) w.heap.size 1 (by omega) (.slice B' k.procs.length d')) (.int .i64 0)) (w.heap.size + 1 + 1) 0 (by omega) (.int .i64 0)) (w.heap.size + 1 + 1) 1 (by omega) (.int .i64 0)) (w.heap.size + 1 + 1) 2 (by omega) (.int .i64 0)
   have q4 := heap_set (i := 2) (heap_set (i := 1) (heap_set (i := 0) (box_setY (box_setY (box_setY Z4.out w.heap.size 0 (by omega) (.slice A' k.tables.length c')) w.heap.size 1 (by omega) (.slice B' k.procs.length d')) (w.heap.size + 1) 0 (by omega) (.int .i64 0)) (.int .i64 0)) (.int .i64 0)) (.int .i64 0)
   obtain ⟨w6, hw6⟩ : ∃ W, (((((w5.setCell ⟨w.heap.size, 0, none⟩ (.slice A' k.tables.length c')).setCell ⟨w.heap.size, 1, none⟩ (.slice B' k.procs.length d')).setCell ⟨w.heap.size + 1, 0, none⟩ (.int .i64 0)).setCell ⟨w.heap.size + 1 + 1, 0, none⟩ (.int .i64 0)).setCell ⟨w.heap.size + 1 + 1, 1, none⟩ (.int .i64 0)).setCell ⟨w.heap.size + 1 + 1, 2, none⟩ (.int .i64 0) = W := ⟨_, rfl⟩
   have hk6 : ∀ x, w.heap.size + 1 + 1 < x → w6.heap[x]? = w5.heap[x]? := fun x hx => by
    rw [← hw6]
    iterate 6 rw [Below.heap_setCell _ _ _ _ (by simp only; omega)]
   have hs6 : w6.heap.size = w5.heap.size := by rw [← hw6]; simp
   have B6 : Below w.heap.size w w6 := by
    rw [← hw6]
    repeat (first | (with_reducible exact Q5.out) | refine Below.setCell ?_ (by simp only; omega) _)
   have hfin : RetP s w.heap.size (.returned (.tuple #[.agg #[.slice A' k.tables.length c', .slice B' k.procs.length d'], nv 0, .agg #[nv 0, nv 0, nv 0]])) w6 ∧ Below w.heap.size w w6 := by
    refine ⟨⟨_, 0, 0, 0, 0, l, o, 0, rfl, HU.out, fun h => absurd rfl h, fun _ => ?_⟩, B6⟩
    rw [show parseT l = .ok k r from HP.out]
    refine ⟨rfl, S, HG.out.1.keep fun x hx => hk6 x (by have := (HG.out.2 x hx).1; omega), fun x hx => ?_⟩
    have := HG.out.2 x hx
    omega
   have HF := Lib.hid hfin
   clear hfin y20 y21 y3 y40 y41 y42
   rw [hw6] at q2 q3 q4 ⊢
   have y20 : w6.cell? ⟨w.heap.size, 0, none⟩ = some (.slice A' k.tables.length c') := by rw [Lib.cell_of_heap q2]; rfl
   have y21 : w6.cell? ⟨w.heap.size, 1, none⟩ = some (.slice B' k.procs.length d') := by rw [Lib.cell_of_heap q2]; rfl
   have y3 : w6.cell? ⟨w.heap.size + 1, 0, none⟩ = some (.int .i64 0) := by rw [Lib.cell_of_heap q3]; rfl
   have y40 : w6.cell? ⟨w.heap.size + 1 + 1, 0, none⟩ = some (.int .i64 0) := by rw [Lib.cell_of_heap q4]; rfl
   have y41 : w6.cell? ⟨w.heap.size + 1 + 1, 1, none⟩ = some (.int .i64 0) := by rw [Lib.cell_of_heap q4]; rfl
   have y42 : w6.cell? ⟨w.heap.size + 1 + 1, 2, none⟩ = some (.int .i64 0) := by rw [Lib.cell_of_heap q4]; rfl
   simp [Leaves, settle, results, Tryz.results5, go_sem, y20, y21, y3, y40, y41, y42]
   exact HF.out
 ·have d0 : (er != 0) = true := by simp [h0]
  go_wp2_with fail
  go_region
  go_wp2_with fail
  have q2 := (box_setY (box_setY (box_setY (box_setY (heap_set (i := 1) (heap_set (i := 0) (box_setY (box_setY (box_setY (box_setY X2.out (w.heap.size + 1) 0 (by omega) (.int .i64 er)) (w.heap.size + 1 + 1) 0 (by omega) (.int .i64 a)) (w.heap.size + 1 + 1) 1 (by omega) (.int .i64 b)) (w.heap.size + 1 + 1) 2 (by omega) (.int .i64 d)) (.slice none 0 0)) (.slice none 0 0)) (w.heap.size + 1) 0 (by omega) (.int .i64 er)) (w.heap.size + 1 + 1) 0 (by omega) (.int .i64 a)) (w.heap.size + 1 + 1) 1 (by omega) (.int .i64 b)) (w.heap.size + 1 + 1) 2 (by omega) (.int .i64 d))
  have q3 := (box_setY (box_setY (box_setY (heap_set (i := 0) (box_setY (box_setY (box_setY (box_setY (box_setY (heap_set (i := 0) X3.out (.int .i64 er)) (w.heap.size + 1 + 1) 0 (by omega) (.int .i64 a)) (w.heap.size + 1 + 1) 1 (by omega) (.int .i64 b)) (w.heap.size + 1 + 1) 2 (by omega) (.int .i64 d)) (w.heap.size) 0 (by omega) (.slice none 0 0)) (w.heap.size) 1 (by omega) (.slice none 0 0)) (.int .i64 er)) (w.heap.size + 1 + 1) 0 (by omega) (.int .i64 a)) (w.heap.size + 1 + 1) 1 (by omega) (.int .i64 b)) (w.heap.size + 1 + 1) 2 (by omega) (.int .i64 d))
  have q4 := (heap_set (i := 2) (heap_set (i := 1) (heap_set (i := 0) (box_setY (box_setY (box_setY (heap_set (i := 2) (heap_set (i := 1) (heap_set (i := 0) (box_setY X4.out (w.heap.size + 1) 0 (by omega) (.int .i64 er)) (.int .i64 a)) (.int .i64 b)) (.int .i64 d)) (w.heap.size) 0 (by omega) (.slice none 0 0)) (w.heap.size) 1 (by omega) (.slice none 0 0)) (w.heap.size + 1) 0 (by omega) (.int .i64 er)) (.int .i64 a)) (.int .i64 b)) (.int .i64 d))
  obtain ⟨V6, hV6⟩ : ∃ W, ((((((((((w2.setCell ⟨w.heap.size + 1, 0, none⟩ (.int .i64 er)).setCell ⟨w.heap.size + 1 + 1, 0, none⟩ (.int .i64 a)).setCell ⟨w.heap.size + 1 + 1, 1, none⟩ (.int .i64 b)).setCell ⟨w.heap.size + 1 + 1, 2, none⟩ (.int .i64 d)).setCell ⟨w.heap.size, 0, none⟩ (.slice none 0 0)).setCell ⟨w.heap.size, 1, none⟩ (.slice none 0 0)).setCell ⟨w.heap.size + 1, 0, none⟩ (.int .i64 er)).setCell ⟨w.heap.size + 1 + 1, 0, none⟩ (.int .i64 a)).setCell ⟨w.heap.size + 1 + 1, 1, none⟩ (.int .i64 b)).setCell ⟨w.heap.size + 1 + 1, 2, none⟩ (.int .i64 d)) = W := ⟨_, rfl⟩
  have B6 : Below w.heap.size w V6.drew := by
   rw [← hV6]
   refine Below.drew ?_
   repeat (first | (with_reducible exact B2.out) | refine Below.setCell ?_ (by simp only; omega) _)
  rw [hV6] at q2 q3 q4 ⊢
  clear hV6
  obtain ⟨w6, hw6⟩ : ∃ W, V6.drew = W := ⟨_, rfl⟩
  have hk6 : ∀ k : Nat, w6.heap[k]? = V6.heap[k]? := fun k => by rw [← hw6]; rfl
  rw [← hk6] at q2 q3 q4
  rw [hw6] at B6 ⊢
  obtain ⟨l, o, hu, _, hx2⟩ := HX.out
  have hfin : RetP s w.heap.size (.returned (.tuple #[noW, nv er, .agg #[nv a, nv b, nv d]])) w6 ∧ Below w.heap.size w w6 := ⟨⟨noW, er, a, b, d, l, o, er, rfl, hu, fun _ => ⟨h0, rfl⟩, fun h => absurd h h0⟩, B6⟩
  have HF := Lib.hid hfin
  clear hfin y20 y21 y3 y40 y41 y42
  have y20 : w6.cell? ⟨w.heap.size, 0, none⟩ = some (.slice none 0 0) := by rw [Lib.cell_of_heap q2]; rfl
  have y21 : w6.cell? ⟨w.heap.size, 1, none⟩ = some (.slice none 0 0) := by rw [Lib.cell_of_heap q2]; rfl
  have y3 : w6.cell? ⟨w.heap.size + 1, 0, none⟩ = some (.int .i64 er) := by rw [Lib.cell_of_heap q3]; rfl
  have y40 : w6.cell? ⟨w.heap.size + 1 + 1, 0, none⟩ = some (.int .i64 a) := by rw [Lib.cell_of_heap q4]; rfl
  have y41 : w6.cell? ⟨w.heap.size + 1 + 1, 1, none⟩ = some (.int .i64 b) := by rw [Lib.cell_of_heap q4]; rfl
  have y42 : w6.cell? ⟨w.heap.size + 1 + 1, 2, none⟩ = some (.int .i64 d) := by rw [Lib.cell_of_heap q4]; rfl
  simp [Leaves, bodyPostD, results, Tryz.results5, go_sem, y20, y21, y3, y40, y41, y42]
  exact HF.out
end Go.Proofs.YtnbmpfdffoidaaaGreat.Y
namespace Go.Proofs.YtnbmpfdffoidaaaGreat.Y
open Go.RowKit O V S X
theorem parse_spread {k : Wk} (hk : okW k) {u : List UInt8} (hu : Spread (toksW k) u) {l : List Tok} {er0 : Int} {o : Nat} (h : LexU u l er0 o) : er0 = 0 ∧ parseT l = .ok k [] := by
 obtain ⟨e1, e2, _⟩ := h.det hu.lex
 subst e1 e2
 refine ⟨rfl, ?_⟩
 refine (backW hk).now (p := fun f => pWork f (toksW k)) (fun f => work_le f _) fun ho => ?_
 have := work_snd (f := 4 * (toksW k).length + 8) (Y.LexU.z h).1.w (Nat.le_refl _)
 rw [ho] at this
 exact this
theorem parse_back (k : Wk) (hk : okW k) (u : List UInt8) (hu : Spread (toksW k) u) (w : World) (hs : u.length ≤ 16384) :
  Calls Tryz.prog 5 #[.string ⟨u.toArray⟩] w fun e w' => (∃ v p q r S, e = .returned (.tuple #[v, nv 0, .agg #[nv p, nv q, nv r]]) ∧ WkR w' S k v ∧ In w.heap.size w' S) ∧ Below w.heap.size w w' := by
 refine (parse_any u w hs).mono ?_
 rintro e w' ⟨⟨v, er, p, q, r, l, o, er0, rfl, hl, _, h2⟩, b⟩
 obtain ⟨e0, hp⟩ := parse_spread hk hu hl
 have h2 := h2 e0
 rw [hp] at h2
 obtain ⟨rfl, S, h3, h4⟩ := h2
 exact ⟨⟨v, p, q, r, S, rfl, h3, h4⟩, b⟩
def x0L : Ex := .bin 8 (.bin 8 (.var [97]) (.var [98])) (.bin 10 (.var [99]) (.val ⟨1, 2, []⟩))
def k0L : Wk := ⟨[], [⟨[112], [], .cons (.emit x0L) .nil⟩]⟩
theorem k0_ok : okW k0L := by
 have h : ∀ c : List UInt8, isNameL c = true → isNameL c = true := fun _ h => h
 refine ⟨⟨by simp [k0L], fun t ht => by cases ht⟩, ⟨by simp [k0L], fun p hp => ?_⟩⟩
 simp only [k0L, List.mem_singleton] at hp
 subst hp
 refine ⟨by decide, ⟨by simp, fun c hc => by cases hc⟩, ?_⟩
 refine ⟨⟨?_, by decide⟩, by decide⟩
 rw [okB, okB, okS]
 refine ⟨⟨by omega, ⟨by omega, ?_, ?_⟩, by omega, ?_, ?_⟩, trivial⟩
 ·show isNameL [97] = true; decide
 ·show isNameL [98] = true; decide
 ·show isNameL [99] = true; decide
 ·exact ⟨by decide, fun _ => by decide⟩
theorem k0_okx : okX x0L := by
 have := (k0_ok.p.2 ⟨[112], [], .cons (.emit x0L) .nil⟩ (by simp [k0L])).b.1.1
 rw [okB, okS] at this
 exact this.1
def u0L : List UInt8 := [112, 114, 111, 99, 32, 112, 32, 40, 32, 41, 32, 123, 32, 101, 109, 105, 116, 32, 97, 32, 45, 32, 98, 32, 45, 32, 99, 32, 42, 32, 50, 32, 59, 32, 125]
theorem dec2 : decL 2 = [50] := by
 unfold decL
 rw [if_neg (by omega)]
 show digN 2 = _
 rw [digN_lt (by omega)]
 rfl
theorem u0_text : joinB ((toksW k0L).map (·.2.1)) = u0L := by
 have e : toksW k0L = [tw w_proc, tw [112], tg [40], tg [41], tg [123], tw w_emit, tw [97], tg [45], tw [98], tg [45], tw [99], tg [42], tv ⟨1, 2, []⟩, tg [59], tg [125]] := by
  simp [toksW, k0L, toksP, toksPs, toksB, toksS, x0L, toks0, br, lvlX, lvlS, signS]
 rw [e]
 have e2 : tv ⟨1, 2, []⟩ = tn 2 := rfl
 rw [e2]
 show joinB [w_proc, [112], [40], [41], [123], w_emit, [97], [45], [98], [45], [99], [42], decL 2, [59], [125]] = _
 rw [dec2]
 rfl
theorem u0_spread : Spread (toksW k0L) u0L := by rw [← u0_text]; exact spread_joinB _ (toksW_ok k0_ok)
theorem live_mem {w : World} {S : Nat → Prop} {v : Value} {B : Nat} (h : WkR w S k0L v) (hS : ∀ b, S b → b < B) :
  ∃ A c b1 o1 d b2 o2 d2 b3 o3 d3 b4 o4 d4, ∃ p q r p1 q1 r1 p2 q2 r2 : Int, ∃ A1 c1 A2 c2, (v = .agg #[.slice A 0 c, .slice (some ⟨b1, o1, none⟩) 1 d] ∧ (b1 < B ∧ b2 < B) ∧ b3 < B ∧ b4 < B) ∧
   w.cell? ⟨b1, o1 + 2, none⟩ = some (.slice (some ⟨b2, o2, none⟩) 1 d2) ∧ w.cell? ⟨b2, o2 + 5, none⟩ = some (.slice (some ⟨b3, o3, none⟩) 1 d3) ∧
   (∀ j, j < 11 → w.cell? ⟨b3, o3 + j, none⟩ = (exC x0L (.slice (some ⟨b4, o4, none⟩) 2 d4) p q r)[j]?) ∧ ExAt w S x0L (some ⟨b4, o4, none⟩) d4 ∧
   (∀ j, j < 11 → w.cell? ⟨b4, o4 + j, none⟩ = (exC (.bin 8 (.var [97]) (.var [98])) (.slice A1 2 c1) p1 q1 r1)[j]?) ∧
   (∀ j, j < 11 → w.cell? ⟨b4, o4 + 11 + j, none⟩ = (exC (.bin 10 (.var [99]) (.val ⟨1, 2, []⟩)) (.slice A2 2 c2) p2 q2 r2)[j]?) := by
 obtain ⟨A, c, es, B1, d, fs, rfl, _, h1, h2⟩ := h
 obtain ⟨b1, o1, vs, e1, hb1, ⟨Ap, cp, eps, B2, d2, bs, pp, pq, pr, rfl, _, h3, h4⟩, hc1⟩ := (h1.rd hS).elem PcR.size h2 (i := 0) (by simp [k0L]) (by omega)
 subst e1
 simp only [Nat.zero_mul, Nat.add_zero] at hc1
 have h4' := (StsR_reps _ _).1 h4
 obtain ⟨b2, o2, vs2, e2, hb2, hst, hc2⟩ := (h3.rd hS).elem StR.size h4' (i := 0) (by simp [k0L, Sts.list]) (by omega)
 subst e2
 simp only [Nat.zero_mul, Nat.add_zero] at hc2
 have hst : StR w S (.emit x0L) vs2 := hst
 obtain ⟨A3, c3, es3, B3, d3, bs3, E3, f3, fs3, p3, q3, r3, rfl, ⟨h5, h6⟩, _⟩ := (StR_eq _ _).1 hst
 obtain ⟨b3, o3, vs3, e3, hb3, hx, hc3⟩ := (h5.rd hS).elem ExR.size h6 (i := 0) (by simp [stA]) (by omega)
 subst e3
 simp only [Nat.zero_mul, Nat.add_zero] at hc3
 have hx : ExR w S x0L vs3 := hx
 obtain ⟨A4, d4, p, q, r, rfl, hat⟩ := ExAt.of hx
 obtain ⟨b4, o4, A1, c1, p1, q1, r1, e4, hb4, hc4, _⟩ := hat.part hS (i := 0) (by simp [x0L, parts])
 obtain ⟨b5, o5, A2, c2, p2, q2, r2, e5, _, hc5, _⟩ := hat.part hS (i := 1) (by simp [x0L, parts])
 subst e4
 injection e5 with e5
 injection e5 with e5 e6
 subst e5 e6
 refine ⟨A, c, b1, o1, d, b2, o2, d2, b3, o3, c3, b4, o4, d4, p, q, r, p1, q1, r1, p2, q2, r2, A1, c1, A2, c2, ⟨rfl, ⟨hb1, hb2⟩, hb3, hb4⟩, hc1 2 (by omega), hc2 5 (by omega), hc3, hat, ?_, ?_⟩
 ·intro j hj
  have := hc4 j hj
  simp only [Nat.zero_mul, Nat.add_zero] at this
  exact this
 ·intro j hj
  have := hc5 j hj
  simp only [Nat.one_mul] at this
  exact this
def t0L : List UInt8 := [97, 32, 45, 32, 98, 32, 45, 32, 99, 32, 42, 32, 50]
theorem t0_text : textOf (toks0 x0L) = t0L := by
 have e : toks0 x0L = [tw [97], tg [45], tw [98], tg [45], tw [99], tg [42], tv ⟨1, 2, []⟩] := by simp [x0L, toks0, br, lvlX, lvlS, signS]
 unfold textOf
 rw [e]
 have e2 : tv ⟨1, 2, []⟩ = tn 2 := rfl
 rw [e2]
 show joinB [[97], [45], [98], [45], [99], [42], decL 2] = _
 rw [dec2]
 rfl
theorem liveY_any (w : World) : Calls Tryz.prog 6 #[] w fun e w' => e = .returned (.bool true) ∧ Below w.heap.size w w' := by
 go_enter Tryz.func6, Tryz.ntmps6
 go_wp2_with fail
 refine (parse_back k0L k0_ok u0L u0_spread w (by decide)).mono ?_; rintro e w1 ⟨⟨v, pp, pq, pr, S, rfl, hk, hin⟩, b1⟩
 obtain ⟨A, c, g1, o1, d, g2, o2, d2, g3, o3, d3, g4, o4, d4, p, q, r, p1, q1, r1, p2, q2, r2, A1, c1, A2, c2, ⟨rfl, ⟨hg1, hg2⟩, hg3, hg4⟩, y1, y2, hc3, hat, hc4, hc5⟩ := live_mem hk (B := w1.heap.size) (fun b hb => (hin b hb).2)
 have HAT := Lib.hid hat
 have HIN := Lib.hid hin
 have B1 := Lib.hid b1
 clear hk hat hin b1
 have x0 : w1.cell? ⟨g3, o3, none⟩ = some (nv 8) := hc3 0 (by omega)
 have x1 : w1.cell? ⟨g3, o3 + 1, none⟩ = some (nv 0) := hc3 1 (by omega)
 have x2 : w1.cell? ⟨g3, o3 + 2, none⟩ = some (nv 0) := hc3 2 (by omega)
 have x3 : w1.cell? ⟨g3, o3 + 3, none⟩ = some (sv []) := hc3 3 (by omega)
 have x4 : w1.cell? ⟨g3, o3 + 4, none⟩ = some (sv []) := hc3 4 (by omega)
 have x5 : w1.cell? ⟨g3, o3 + 5, none⟩ = some (sv []) := hc3 5 (by omega)
 have x6 : w1.cell? ⟨g3, o3 + 6, none⟩ = some (nv 8) := hc3 6 (by omega)
 have x7 : w1.cell? ⟨g3, o3 + 7, none⟩ = some (.slice (some ⟨g4, o4, none⟩) 2 d4) := hc3 7 (by omega)
 have x8 : w1.cell? ⟨g3, o3 + 8, none⟩ = some (nv p) := hc3 8 (by omega)
 have x9 : w1.cell? ⟨g3, o3 + 9, none⟩ = some (nv q) := hc3 9 (by omega)
 have x10 : w1.cell? ⟨g3, o3 + 10, none⟩ = some (nv r) := hc3 10 (by omega)
 have z6 : w1.cell? ⟨g4, o4 + 6, none⟩ = some (nv 8) := hc4 6 (by omega)
 have z17 : w1.cell? ⟨g4, o4 + 11 + 6, none⟩ = some (nv 10) := hc5 6 (by omega)
 clear hc3 hc4 hc5
 go_upto_region 5 with fail
 obtain ⟨W, hW⟩ : ∃ W, ((w1.alloc (.cells #[.slice A 0 c, .slice (some ⟨g1, o1, none⟩) 1 d] 26)).alloc (.cells #[nv pp, nv pq, nv pr] 29)).alloc (.cells #[nv 8, nv 0, nv 0, sv [], sv [], sv [], nv 8, .slice (some ⟨g4, o4, none⟩) 2 d4, nv p, nv q, nv r] 43) = W := ⟨_, rfl⟩
 have bW : Below w1.heap.size w1 W := by rw [← hW]; repeat (first | exact Below.refl _ _ | refine Below.alloc ?_ (by first | omega | (simp <;> omega)) _)
 have BX : W.heap[w1.heap.size + 1 + 1]? = some (exB 8 0 0 [] [] [] 8 (.slice (some ⟨g4, o4, none⟩) 2 d4) p q r) := by rw [← hW]; exact alloc_at (by simp)
 replace z6 : W.cell? ⟨g4, o4 + 6, none⟩ = some (nv 8) := (bW.cell (p := ⟨g4, o4 + 6, none⟩) hg4).trans z6
 replace z17 : W.cell? ⟨g4, o4 + 11 + 6, none⟩ = some (nv 10) := (bW.cell (p := ⟨g4, o4 + 11 + 6, none⟩) hg4).trans z17
 have hat2 : ExAt W S x0L (some ⟨g4, o4, none⟩) d4 := HAT.out.keep fun b hb => bW.block b (HIN.out b hb).2
 have BW := Lib.hid (B1.out.trans (bW.mono B1.out.size))
 rw [hW]
 clear hW x0 x1 x2 x3 x4 x5 x6 x7 x8 x9 x10
 have HA2 := Lib.hid hat2
 have HS2 : Hid (∀ b, S b → b < W.heap.size) := Lib.hid fun b hb => Nat.lt_of_lt_of_le (HIN.out b hb).2 bW.size
 clear hat2 bW
 obtain ⟨⟨⟨⟨x0, x1⟩, x2, x3⟩, ⟨x4, x5⟩, x6, x7⟩, ⟨x8, x9⟩, x10⟩ := cells11 BX
 clear BX
 go_wp2_with fail
 refine (printExpr_any x0L k0_okx (some ⟨g4, o4, none⟩) d4 p q r S W HA2.out HS2.out (by decide) (by rw [t0_text]; decide)).mono ?_; rintro e w5 ⟨rfl, b5⟩
 rw [t0_text]
 go_wp2_with fail
 go_ret
 exact ⟨rfl, BW.out.trans (b5.mono BW.out.size)⟩
end Go.Proofs.YtnbmpfdffoidaaaGreat.Y
namespace Go.Proofs.YtnbmpfdffoidaaaGreat.V
open Go.RowKit O
def resP (o : Option Val) : Value := match o with
 | none => .tuple #[vv ⟨0, 0, []⟩, .bool false]
 | some v => .tuple #[vv v, .bool true]
def PB (w : World) (B : Nat) (n : Int) (u : List UInt8) (W : World) : Prop :=
 W.heap[w.heap.size]? = some (.cells #[.int .i64 0, .int .i64 0, .string ⟨#[]⟩] 40 (0, 0)) ∧
 W.heap[B]? = some (.cells #[.int .i64 1, .int .i64 n, .string ⟨#[]⟩, .int .i64 2, .int .i64 1, .string ⟨#[]⟩, .int .i64 2, .int .i64 0, .string ⟨#[]⟩, .int .i64 3, .int .i64 0, .string ⟨u.toArray⟩] 40 (0, 0)) ∧ Below w.heap.size w W
theorem PB.next {w W W' : World} {B : Nat} {n : Int} {u : List UInt8} (h : PB w B n u W) (b : Below W.heap.size W W') : PB w B n u W' := ⟨box_next h.1 b, box_next h.2.1 b, bthen h.2.2 b⟩
theorem PB.cells {w W : World} {B : Nat} {n : Int} {u : List UInt8} (h : PB w B n u W) :
  ((W.cell? ⟨B, 0, none⟩ = some (.int .i64 1) ∧ W.cell? ⟨B, 1, none⟩ = some (.int .i64 n) ∧ W.cell? ⟨B, 2, none⟩ = some (.string ⟨#[]⟩)) ∧
  (W.cell? ⟨B, 3, none⟩ = some (.int .i64 2) ∧ W.cell? ⟨B, 4, none⟩ = some (.int .i64 1) ∧ W.cell? ⟨B, 5, none⟩ = some (.string ⟨#[]⟩))) ∧
  (W.cell? ⟨B, 6, none⟩ = some (.int .i64 2) ∧ W.cell? ⟨B, 7, none⟩ = some (.int .i64 0) ∧ W.cell? ⟨B, 8, none⟩ = some (.string ⟨#[]⟩)) ∧
  (W.cell? ⟨B, 9, none⟩ = some (.int .i64 3) ∧ W.cell? ⟨B, 10, none⟩ = some (.int .i64 0) ∧ W.cell? ⟨B, 11, none⟩ = some (.string ⟨u.toArray⟩)) := by
 refine ⟨⟨⟨?_, ?_, ?_⟩, ?_, ?_, ?_⟩, ⟨?_, ?_, ?_⟩, ?_, ?_, ?_⟩ <;> (rw [Lib.cell_of_heap h.2.1]; rfl)
end Go.Proofs.YtnbmpfdffoidaaaGreat.V
namespace Go.Proofs.YtnbmpfdffoidaaaGreat.V
open Go.RowKit O
theorem pow_step {a k : Nat} (h : a < 10 ^ (20 - k)) (h10 : 10 ≤ a) (hk : k ≤ 19) : k + 1 ≤ 19 ∧ a / 10 < 10 ^ (20 - (k + 1)) := by
 rcases Nat.lt_or_ge k 19 with h1 | h1
 ·refine ⟨by omega, ?_⟩
  rw [show 20 - k = (20 - (k + 1)) + 1 by omega, Nat.pow_succ] at h
  omega
 ·obtain rfl : k = 19 := by omega
  simp at h
  omega
theorem dig_step {N a : Nat} {t : List UInt8} (h : digN N = digN a ++ t) (h10 : 10 ≤ a) : digN N = digN (a / 10) ++ ([UInt8.ofNat (48 + a % 10)] ++ t) := by
 rw [h, digN_ge h10]; simp
theorem dig_end {N a : Nat} {t : List UInt8} (h : digN N = digN a ++ t) (h10 : a < 10) : digN N = [UInt8.ofNat (48 + a % 10)] ++ t := by
 rw [h, digN_lt h10, Nat.mod_eq_of_lt h10]
theorem strqR {W : World} {B n c : Nat} {A : Option Addr} {l : List UInt8} (h : Rd W B 1 A n (bv l)) : (convert 111 9 (.slice A n c)).run Tryz.prog W = .ok (.string ⟨l.toArray⟩) W :=
 run_str W Tryz.underlying111 Tryz.underlying5 Tryz.underlying9 h
theorem dig_q (d : Nat) (hd : d < 10) (w : World) : (convert 111 9 (.slice (some ⟨w.heap.size, 0, none⟩) 1 1)).run Tryz.prog (w.alloc (.cells #[.int .u8 (48 + (d : Int))] 5)) = .ok (.string ⟨[UInt8.ofNat (48 + d)].toArray⟩) (w.alloc (.cells #[.int .u8 (48 + (d : Int))] 5)) := by
 have : [Value.int .u8 (48 + (d : Int))] = bv [UInt8.ofNat (48 + d)] := by simp [bv]; omega
 have r : Rd (w.alloc (.cells #[.int .u8 (48 + (d : Int))] 5)) (w.heap.size + 1) 1 (some ⟨w.heap.size, 0, none⟩) 1 (bv [UInt8.ofNat (48 + d)]) := by rw [← this]; exact Rd.built w _ _
 exact strqR (c := 1) r
theorem dig_q0 (w : World) : (convert 111 9 (.slice (some ⟨w.heap.size, 0, none⟩) 1 1)).run Tryz.prog (w.alloc (.cells #[.int .u8 48] 5)) = .ok (.string ⟨[48].toArray⟩) (w.alloc (.cells #[.int .u8 48] 5)) :=
 strqR (c := 1) (l := [48]) (Rd.built w (.int .u8 48) 5)
theorem tmod_neg (a : Nat) : (-(a : Int)).tmod 10 = -((a % 10 : Nat) : Int) := by rw [Int.neg_tmod, Int.tmod_eq_emod_of_nonneg (by omega)]; omega
theorem tdiv_neg (a : Nat) : (-(a : Int)).tdiv 10 = -((a / 10 : Nat) : Int) := by rw [Int.neg_tdiv, Int.tdiv_eq_ediv_of_nonneg (by omega)]; omega
theorem rdec_any (n0 : Int) (w : World) (h1 : -9223372036854775808 ≤ n0) (h2 : n0 ≤ 9223372036854775807) : Calls Tryz.prog 41 #[.int .i64 n0] w fun e w' => e = .returned (.string ⟨(decL n0).toArray⟩) ∧ Below w.heap.size w w' := by
 go_enter Tryz.func41, Tryz.ntmps41
 go_wp2_with fail
 go_loopw [0, 3, 4, 5] (fun n s i _ wr => ∃ (x : Int) (k : Nat) (t : List UInt8), n = .int .i64 x ∧ s = .string ⟨t.toArray⟩ ∧ i = .int .i64 k ∧ Hid (digN n0.natAbs = digN x.natAbs ++ t) ∧ Hid (x.natAbs < 10 ^ (20 - k)) ∧ k ≤ 19 ∧ t.length ≤ k ∧ -9223372036854775808 ≤ x ∧ x ≤ 9223372036854775807 ∧ ((n0 < 0 ∧ x < 0) ∨ (0 ≤ n0 ∧ 0 ≤ x)) ∧ Below w.heap.size w wr) (fun _ _ i _ _ => 20 - (intOf i).toNat)
 case atStart => exact ⟨n0, 0, [], rfl, rfl, rfl, Lib.hid (by simp), Lib.hid (by simp; omega), by omega, by simp, h1, h2, by omega, Below.refl _ _⟩
 case round =>
  obtain ⟨x, k, t, rfl, rfl, rfl, H, HP, hk, htl, hx1, hx2, hsg, hb⟩ := hrel
  obtain ⟨a, ha⟩ : ∃ a, x.natAbs = a := ⟨_, rfl⟩
  rw [ha] at H HP
  obtain ⟨d, hd⟩ : ∃ d, a % 10 = d := ⟨_, rfl⟩
  obtain ⟨b, hb2⟩ : ∃ b, a / 10 = b := ⟨_, rfl⟩
  have hd10 : d < 10 := by omega
  have hq := fun w => dig_q d hd10 w
  obtain ⟨c, hc⟩ : ∃ c, UInt8.ofNat (48 + d) = c := ⟨_, rfl⟩
  rw [hc] at hq
  have hbb : (b : Int) ≤ 922337203685477580 := by omega
  have hlim : 1 + t.length ≤ 9223372036854775807 := by omega
  have hlim2 : 1 + (1 + t.length) ≤ 9223372036854775807 := by omega
  have hsz : (ByteArray.mk t.toArray).size = t.length := by simp [ByteArray.size]
  rcases hsg with ⟨n1, n2⟩ | ⟨n1, n2⟩
  ·obtain rfl : x = -(a : Int) := by omega
   have hfin : Hid (decL n0 = [45] ++ digN n0.natAbs) := Lib.hid (by unfold decL; rw [if_pos n1]; rfl)
   have e1 : (-(a : Int)).tmod 10 = -(d : Int) := by rw [tmod_neg, hd]
   have e2 : (-(a : Int)).tdiv 10 = -(b : Int) := by rw [tdiv_neg, hb2]
   have n3 : decide (-(a : Int) < 0) = true := by simp; omega
   by_cases h10 : 10 ≤ a
   ·have hs := Lib.hid (dig_step H.out h10)
    have hp := pow_step HP.out h10 hk
    rw [hd, hb2, hc] at hs
    have hb0 : 0 < b := by omega
    rw [hb2] at hp
    obtain ⟨hk1, hp1⟩ := hp
    have hp2 : Hid ((-(b : Int)).natAbs < 10 ^ (20 - (k + 1))) := Lib.hid (by rw [show (-(b : Int)).natAbs = b by omega]; exact hp1)
    have hs : Hid (digN n0.natAbs = digN (-(b : Int)).natAbs ++ ([c] ++ t)) := Lib.hid (by rw [show (-(b : Int)).natAbs = b by omega]; exact hs.out)
    clear hp1
    have g1 : decide (-(a : Int) > -10) = false := by simp; omega
    have hc48 : d = 0 → c = 48 := fun h => by rw [← hc, h]; rfl
    clear hd hb2 ha H HP hc
    by_cases hd0 : d = 0
    ·subst hd0
     have hq0 := fun w => dig_q0 w
     have e1 : (-(a : Int)).tmod 10 = 0 := e1
     clear hq
     obtain rfl : c = 48 := hc48 rfl
     go_wp2_with fail
     go_roundw
     case rel => exact ⟨-(b : Int), k + 1, [48] ++ t, rfl, by rw [ba_append], by go_num, hs, hp2, hk1, by simp; omega, by omega, by omega, by omega, by repeat (first | (with_reducible exact hb) | refine Below.alloc ?_ (by first | exact hb.size | (simp; have := hb.size; omega)) _)⟩
     case measure => simp [intOf]; omega
    ·have g0 : decide (-(d : Int) < 0) = true := by simp; omega
     go_wp2_with fail
     go_roundw
     case rel => exact ⟨-(b : Int), k + 1, _, rfl, by rw [ba_append], by go_num, hs, hp2, hk1, by simp; omega, by omega, by omega, by omega, by repeat (first | (with_reducible exact hb) | refine Below.alloc ?_ (by first | exact hb.size | (simp; have := hb.size; omega)) _)⟩
     case measure => simp [intOf]; omega
   ·have hs := Lib.hid (dig_end H.out (by omega))
    rw [hd, hc] at hs
    have hda : d = a := by omega
    subst hda
    have g0 : decide (-(d : Int) < 0) = true := by simp; omega
    have g1 : decide (-(d : Int) > -10) = true := by simp; omega
    have g2 : decide (-(d : Int) < 10) = true := by simp; omega
    clear hd hb2 ha H HP hc
    go_wp2_with fail
    go_ret
    rw [ba_append, ba_append]
    exact ⟨by rw [hfin.out, hs.out]; rfl, by repeat (first | (with_reducible exact hb) | refine Below.alloc ?_ (by first | exact hb.size | (simp; have := hb.size; omega)) _)⟩
  ·obtain rfl : x = (a : Int) := by omega
   have hfin : Hid (decL n0 = digN n0.natAbs) := Lib.hid (by unfold decL; rw [if_neg (by omega)])
   have e1 : (a : Int) % 10 = (d : Int) := by omega
   have e2 : (a : Int) / 10 = (b : Int) := by omega
   have n3 : decide ((a : Int) < 0) = false := by simp
   have g0 : decide ((d : Int) < 0) = false := by simp
   have g1 : decide ((a : Int) > -10) = true := by simp; omega
   by_cases h10 : 10 ≤ a
   ·have hs := Lib.hid (dig_step H.out h10)
    have hp := pow_step HP.out h10 hk
    rw [hd, hb2, hc] at hs
    have hb0 : 0 < b := by omega
    rw [hb2] at hp
    obtain ⟨hk1, hp1⟩ := hp
    have hp2 : Hid (((b : Int)).natAbs < 10 ^ (20 - (k + 1))) := Lib.hid (by rw [show ((b : Int)).natAbs = b by omega]; exact hp1)
    have hs : Hid (digN n0.natAbs = digN ((b : Int)).natAbs ++ ([c] ++ t)) := Lib.hid (by rw [show ((b : Int)).natAbs = b by omega]; exact hs.out)
    clear hp1
    have g2 : decide ((a : Int) < 10) = false := by simp; omega
    clear hd hb2 ha H HP hc
    go_wp2_with fail
    go_roundw
    case rel => exact ⟨(b : Int), k + 1, _, rfl, by rw [ba_append], by go_num, hs, hp2, hk1, by simp; omega, by omega, by omega, by omega, by repeat (first | (with_reducible exact hb) | refine Below.alloc ?_ (by first | exact hb.size | (simp; have := hb.size; omega)) _)⟩
    case measure => simp [intOf]; omega
   ·have hs := Lib.hid (dig_end H.out (by omega))
    rw [hd, hc] at hs
    have g2 : decide ((a : Int) < 10) = true := by simp; omega
    clear hd hb2 ha H HP hc
    go_wp2_with fail
    go_ret
    rw [ba_append]
    exact ⟨by rw [hfin.out, hs.out]; rfl, by repeat (first | (with_reducible exact hb) | refine Below.alloc ?_ (by first | exact hb.size | (simp; have := hb.size; omega)) _)⟩
theorem esc_ba {s : List UInt8} {k : Nat} (h : k < s.length) {c : UInt8} (hc : s[k] = c) : (ByteArray.mk s.toArray).extract k (k + 1) = ByteArray.mk [c].toArray := by
 apply ByteArray.ext
 subst hc
 apply Array.ext'
 simp [List.extract_eq_take_drop]
 rw [List.drop_eq_getElem_cons h]
 rfl
theorem rprint_any (v : Val) (w : World) (hs : v.s.length ≤ 100000000) (h1 : -9223372036854775808 ≤ v.n) (h2 : v.n ≤ 9223372036854775807) :
  Calls Tryz.prog 29 #[vv v] w fun e w' => e = .returned (.string ⟨(printV v).toArray⟩) ∧ Below w.heap.size w w' := by
 obtain ⟨k, m, s⟩ := v
 have hs' : (⟨k, m, s⟩ : Val).s.length ≤ 1000000000000 := by omega
 have hs2 : s.length ≤ 100000000 := hs
 clear hs
 have h1' : -9223372036854775808 ≤ m := h1
 have h2' : m ≤ 9223372036854775807 := h2
 clear h1 h2
 simp only [vv]
 cases hr : right ⟨k, m, s⟩
 ·have hp := Lib.hid (printV_no hr)
  go_enter Tryz.func29, Tryz.ntmps29
  go_wp2_with fail
  refine (rright_any ⟨k, m, s⟩ _ hs').mono ?_; rintro e w1 ⟨rfl, b1⟩
  rw [hr]
  have B1 : Below w.heap.size w w1 := bthen (by repeat (first | exact Below.refl _ _ | refine Below.alloc ?_ (by simp <;> omega) _)) b1
  go_wp2_with fail
  go_ret
  exact ⟨by rw [hp.out]; rfl, B1⟩
 ·rcases (show k = 1 ∨ (k = 2 ∧ s = [] ∧ (m = 0 ∨ m = 1)) ∨ (k = 3 ∧ m = 0) by rcases right_cases hr with ⟨e, _⟩ | ⟨e, e2, e3⟩ | ⟨e, e2, _⟩ <;> simp_all) with rfl | ⟨rfl, rfl, hm⟩ | ⟨rfl, rfl⟩
  ·have hp := Lib.hid (printV_one hr)
   go_enter Tryz.func29, Tryz.ntmps29
   go_wp2_with fail
   refine (rright_any ⟨1, m, s⟩ _ hs').mono ?_; rintro e w1 ⟨rfl, b1⟩
   rw [hr]
   have B1 : Below w.heap.size w w1 := bthen (by repeat (first | exact Below.refl _ _ | refine Below.alloc ?_ (by simp <;> omega) _)) b1
   have x : w1.heap[w.heap.size]? = some (.cells #[.int .i64 1, .int .i64 m, .string ⟨s.toArray⟩] 40 (0, 0)) := box_next (by repeat (first | (refine alloc_at ?_; simp; done) | refine alloc_old' ?_)) b1
   have xc0 : w1.cell? ⟨w.heap.size, 0, none⟩ = some (.int .i64 1) := by rw [Lib.cell_of_heap x]; rfl
   have xf0 : w1.frozen? ⟨w.heap.size, 0, none⟩ = false := Lib.frozen_of_heap x 0
   have xc1 : w1.cell? ⟨w.heap.size, 1, none⟩ = some (.int .i64 m) := by rw [Lib.cell_of_heap x]; rfl
   have xf1 : w1.frozen? ⟨w.heap.size, 1, none⟩ = false := Lib.frozen_of_heap x 1
   have xc2 : w1.cell? ⟨w.heap.size, 2, none⟩ = some (.string ⟨s.toArray⟩) := by rw [Lib.cell_of_heap x]; rfl
   have xf2 : w1.frozen? ⟨w.heap.size, 2, none⟩ = false := Lib.frozen_of_heap x 2
   go_wp2_with fail
   refine (rdec_any m _ h1' h2').mono ?_; rintro e w2 ⟨rfl, b2⟩
   go_wp2_with fail
   go_ret
   exact ⟨by rw [hp.out]; rfl, bthen B1 b2⟩
  ·have hp := Lib.hid (printV_two hr)
   rcases hm with rfl | rfl
   ·go_enter Tryz.func29, Tryz.ntmps29
    go_wp2_with fail
    refine (rright_any ⟨2, 0, []⟩ _ hs').mono ?_; rintro e w1 ⟨rfl, b1⟩
    rw [hr]
    have B1 : Below w.heap.size w w1 := bthen (by repeat (first | exact Below.refl _ _ | refine Below.alloc ?_ (by simp <;> omega) _)) b1
    have x : w1.heap[w.heap.size]? = some (.cells #[.int .i64 2, .int .i64 0, .string ⟨#[]⟩] 40 (0, 0)) := box_next (by repeat (first | (refine alloc_at ?_; simp; done) | refine alloc_old' ?_)) b1
    have xc0 : w1.cell? ⟨w.heap.size, 0, none⟩ = some (.int .i64 2) := by rw [Lib.cell_of_heap x]; rfl
    have xf0 : w1.frozen? ⟨w.heap.size, 0, none⟩ = false := Lib.frozen_of_heap x 0
    have xc1 : w1.cell? ⟨w.heap.size, 1, none⟩ = some (.int .i64 0) := by rw [Lib.cell_of_heap x]; rfl
    have xf1 : w1.frozen? ⟨w.heap.size, 1, none⟩ = false := Lib.frozen_of_heap x 1
    have xc2 : w1.cell? ⟨w.heap.size, 2, none⟩ = some (.string ⟨#[]⟩) := by rw [Lib.cell_of_heap x]; rfl
    have xf2 : w1.frozen? ⟨w.heap.size, 2, none⟩ = false := Lib.frozen_of_heap x 2
    go_wp2_with fail
    go_ret
    exact ⟨by rw [hp.out]; rfl, B1⟩
   ·go_enter Tryz.func29, Tryz.ntmps29
    go_wp2_with fail
    refine (rright_any ⟨2, 1, []⟩ _ hs').mono ?_; rintro e w1 ⟨rfl, b1⟩
    rw [hr]
    have B1 : Below w.heap.size w w1 := bthen (by repeat (first | exact Below.refl _ _ | refine Below.alloc ?_ (by simp <;> omega) _)) b1
    have x : w1.heap[w.heap.size]? = some (.cells #[.int .i64 2, .int .i64 1, .string ⟨#[]⟩] 40 (0, 0)) := box_next (by repeat (first | (refine alloc_at ?_; simp; done) | refine alloc_old' ?_)) b1
    have xc0 : w1.cell? ⟨w.heap.size, 0, none⟩ = some (.int .i64 2) := by rw [Lib.cell_of_heap x]; rfl
    have xf0 : w1.frozen? ⟨w.heap.size, 0, none⟩ = false := Lib.frozen_of_heap x 0
    have xc1 : w1.cell? ⟨w.heap.size, 1, none⟩ = some (.int .i64 1) := by rw [Lib.cell_of_heap x]; rfl
    have xf1 : w1.frozen? ⟨w.heap.size, 1, none⟩ = false := Lib.frozen_of_heap x 1
    have xc2 : w1.cell? ⟨w.heap.size, 2, none⟩ = some (.string ⟨#[]⟩) := by rw [Lib.cell_of_heap x]; rfl
    have xf2 : w1.frozen? ⟨w.heap.size, 2, none⟩ = false := Lib.frozen_of_heap x 2
    go_wp2_with fail
    go_ret
    exact ⟨by rw [hp.out]; rfl, B1⟩
  ·have hp := Lib.hid (printV_three hr)
   have hsz : (ByteArray.mk s.toArray).size = s.length := by simp [ByteArray.size]
   go_enter Tryz.func29, Tryz.ntmps29
   go_wp2_with fail
   refine (rright_any ⟨3, 0, s⟩ _ hs').mono ?_; rintro e w1 ⟨rfl, b1⟩
   rw [hr]
   have B1 : Below w.heap.size w w1 := bthen (by repeat (first | exact Below.refl _ _ | refine Below.alloc ?_ (by simp <;> omega) _)) b1
   have x : w1.heap[w.heap.size]? = some (.cells #[.int .i64 3, .int .i64 0, .string ⟨s.toArray⟩] 40 (0, 0)) := box_next (by repeat (first | (refine alloc_at ?_; simp; done) | refine alloc_old' ?_)) b1
   have xc0 : w1.cell? ⟨w.heap.size, 0, none⟩ = some (.int .i64 3) := by rw [Lib.cell_of_heap x]; rfl
   have xf0 : w1.frozen? ⟨w.heap.size, 0, none⟩ = false := Lib.frozen_of_heap x 0
   have xc1 : w1.cell? ⟨w.heap.size, 1, none⟩ = some (.int .i64 0) := by rw [Lib.cell_of_heap x]; rfl
   have xf1 : w1.frozen? ⟨w.heap.size, 1, none⟩ = false := Lib.frozen_of_heap x 1
   have xc2 : w1.cell? ⟨w.heap.size, 2, none⟩ = some (.string ⟨s.toArray⟩) := by rw [Lib.cell_of_heap x]; rfl
   have xf2 : w1.frozen? ⟨w.heap.size, 2, none⟩ = false := Lib.frozen_of_heap x 2
   clear b1 x
   go_wp2_with fail
   go_loop [3, 4] (fun t i => ∃ j : Nat, j ≤ s.length ∧ i = .int .i64 j ∧ t = .string ⟨([34] ++ escL (s.take j)).toArray⟩) (fun _ i => s.length - (intOf i).toNat)
   case atStart => exact ⟨0, by omega, rfl, by simp [escL]⟩
   case round =>
    obtain ⟨j, hj, rfl, rfl⟩ := hrel
    have hel : ([34] ++ escL (s.take j)).length ≤ 300000000 := by have := escL_len (s.take j); simp at this ⊢; omega
    by_cases hlt : j < s.length
    ·have hn := Lib.hid (esc_step hlt)
     obtain ⟨c, hc⟩ : ∃ c, s[j] = c := ⟨_, rfl⟩
     rw [hc] at hn
     have hn' : Hid ([34] ++ escL (s.take (j + 1)) = ([34] ++ escL (s.take j)) ++ esc c) := Lib.hid (by rw [hn.out]; simp)
     have hx := ba_at s j hlt hc
     have hex := esc_ba hlt hc
     clear hc
     generalize [34] ++ escL (s.take j) = t at *
     have ht : (ByteArray.mk t.toArray).size = t.length := by simp [ByteArray.size]
     have hlm1 : t.length + 1 ≤ 9223372036854775807 := by omega
     have hlm2 : t.length + 1 + 1 ≤ 9223372036854775807 := by omega
     by_cases h34 : c.toNat = 34 ∨ c.toNat = 92
     ·have he : Hid (esc c = [92, c]) := Lib.hid (by unfold esc; rw [if_pos h34])
      rcases h34 with h34 | h34
      ·have g1 : ((c.toNat : Int) == 34) = true := by simp; omega
       clear h34
       go_wp2_with fail
       go_round
       case rel => exact ⟨j + 1, by omega, by go_num, by rw [hn'.out, he.out]; simp only [ba_append, List.append_assoc] <;> rfl⟩
       case measure => simp [intOf]; omega
      ·have g1 : ((c.toNat : Int) == 34) = false := by simp; omega
       have g2 : ((c.toNat : Int) == 92) = true := by simp; omega
       clear h34
       go_wp2_with fail
       go_round
       case rel => exact ⟨j + 1, by omega, by go_num, by rw [hn'.out, he.out]; simp only [ba_append, List.append_assoc] <;> rfl⟩
       case measure => simp [intOf]; omega
     ·have he : Hid (esc c = [c]) := Lib.hid (by unfold esc; rw [if_neg h34])
      have g1 : ((c.toNat : Int) == 34) = false := by simp; omega
      have g2 : ((c.toNat : Int) == 92) = false := by simp; omega
      go_wp2_with fail
      go_round
      case rel => exact ⟨j + 1, by omega, by go_num, by rw [hn'.out, he.out]; simp only [ba_append, List.append_assoc] <;> rfl⟩
      case measure => simp [intOf]; omega
    ·obtain rfl : j = s.length := by omega
     rw [List.take_length] at hel ⊢
     have hpq : Hid (printV ⟨3, 0, s⟩ = ([34] ++ escL s) ++ [34]) := Lib.hid (by rw [hp.out]; simp [quoteL])
     generalize [34] ++ escL s = t at *
     have ht : (ByteArray.mk t.toArray).size = t.length := by simp [ByteArray.size]
     have hlm1 : t.length + 1 ≤ 9223372036854775807 := by omega
     go_wp2_with fail
     go_ret
     rw [ba_append]
     exact ⟨by rw [hpq.out]; rfl, B1⟩
def RetR (s : List UInt8) (w : World) (e : Ending) (w' : World) : Prop := ∃ u : Val, e = .returned (.tuple #[vv u, .bool (parseR s).isSome]) ∧ (∀ v, parseR s = some v → u = v) ∧ Below w.heap.size w w'
def RB (w : World) (done : List UInt8) (W : World) : Prop :=
 W.heap[w.heap.size]? = some (.cells #[.int .i64 0, .int .i64 0, .string ⟨#[]⟩] 40 (0, 0)) ∧
 W.heap[w.heap.size + 1]? = some (.cells #[.int .i64 3, .int .i64 0, .string ⟨done.toArray⟩] 40 (0, 0)) ∧ Below w.heap.size w W
end Go.Proofs.YtnbmpfdffoidaaaGreat.V
