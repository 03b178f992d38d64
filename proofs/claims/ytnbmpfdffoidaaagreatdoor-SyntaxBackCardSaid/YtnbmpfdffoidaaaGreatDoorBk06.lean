/- Texts of the proof, joined: LexQuo, SchedB, LexTok. -/
import Derived.Test.YtnbmpfdffoidaaaGreatDoorBk01
import Derived.Test.YtnbmpfdffoidaaaGreatDoorBk05
import Derived.OrdersHeld
import Derived.Deep.RegionHeld
import Derived.Deep.RegionHeld3
set_option linter.unusedVariables false
set_option linter.unusedSimpArgs false
set_option maxHeartbeats 8000000
set_option maxRecDepth 100000
namespace Go.Proofs.YtnbmpfdffoidaaaGreatDoor.X
open Go.RowKit O V S
theorem quoS_cons (c : UInt8) (l : List UInt8) (k : Nat) (q : Quo) : quoS (c :: l) k q = if c.toNat = 34 then some ⟨k, q.s, q.bad⟩ else if c.toNat = 92 then (match l with | [] => none | d :: r => quoS r (k + 2) ⟨0, q.s ++ [d], orE q.bad (if (!escC d || wrongC d) = true then some (k + 1) else none)⟩) else quoS l (k + 1) ⟨0, q.s ++ [c], orE q.bad (if wrongC c = true then some k else none)⟩ := by
 match l with
 | [] =>
  have h0 : quoS [c] k q = if c.toNat = 34 then some ⟨k, q.s, q.bad⟩ else none := by rw [quoS]
  rw [h0]
  split
  ·rfl
  ·split
   ·rfl
   ·rw [quoS]
 | d :: r => rw [quoS]
theorem quoS_nil (k : Nat) (q : Quo) : quoS [] k q = none := by rw [quoS]
section
variable {t : List UInt8} {k : Nat}
theorem qs_end (h : t.length ≤ k) (k' : Nat) (q : Quo) : quoS (t.drop k) k' q = none := by rw [List.drop_of_length_le h, quoS_nil]
theorem qs_quote (h : k < t.length) (hc : (t[k]).toNat = 34) (q : Quo) : quoS (t.drop k) k q = some ⟨k, q.s, q.bad⟩ := by
 rw [List.drop_eq_getElem_cons h, quoS_cons, if_pos hc]
theorem qs_esc (h : k + 1 < t.length) (hc : (t[k]).toNat = 92) (q : Quo) : quoS (t.drop k) k q = quoS (t.drop (k + 2)) (k + 2) ⟨0, q.s ++ [t[k + 1]], orE q.bad (if (!escC t[k + 1] || wrongC t[k + 1]) = true then some (k + 1) else none)⟩ := by
 rw [List.drop_eq_getElem_cons (by omega : k < t.length), quoS_cons, if_neg (by omega), if_pos hc, List.drop_eq_getElem_cons h]
theorem qs_esc_end (h : k + 1 = t.length) (hc : (t[k]'(by omega)).toNat = 92) (q : Quo) : quoS (t.drop k) k q = none := by
 rw [List.drop_eq_getElem_cons (by omega : k < t.length), quoS_cons, if_neg (by omega), if_pos hc, List.drop_of_length_le (by omega)]
theorem qs_go (h : k < t.length) (h1 : (t[k]).toNat ≠ 34) (h2 : (t[k]).toNat ≠ 92) (q : Quo) : quoS (t.drop k) k q = quoS (t.drop (k + 1)) (k + 1) ⟨0, q.s ++ [t[k]], orE q.bad (if wrongC t[k] = true then some k else none)⟩ := by
 rw [List.drop_eq_getElem_cons h, quoS_cons, if_neg h1, if_neg h2]
end
theorem qs_n : ∀ (n : Nat) (l : List UInt8), l.length ≤ n → ∀ (k : Nat) (q q' : Quo), (quoS l k q).map (·.n) = (quoS l k q').map (·.n)
 | _, [], _, k, q, q' => by rw [quoS_nil, quoS_nil]
 | 0, c :: l, h, _, _, _ => by simp at h
 | n + 1, c :: l, h, k, q, q' => by
  simp at h
  rw [quoS_cons, quoS_cons c l k q']
  split
  ·rfl
  ·split
   ·match l, h with
    | [], _ => rfl
    | d :: r, h => exact qs_n n r (by simp at h; omega) _ _ _
   ·exact qs_n n l h _ _ _
theorem qs_bad : ∀ (n : Nat) (l : List UInt8), l.length ≤ n → ∀ (k : Nat) (q Q : Quo) (b : Nat), q.bad = some b → quoS l k q = some Q → Q.bad = some b
 | _, [], _, k, q, Q, b, _, h => by rw [quoS_nil] at h; cases h
 | 0, c :: l, h, _, _, _, _, _, _ => by simp at h
 | n + 1, c :: l, h, k, q, Q, b, hb, hq => by
  simp at h
  rw [quoS_cons] at hq
  split at hq
  ·cases hq; exact hb
  ·split at hq
   ·match l, h with
    | [], _ => cases hq
    | d :: r, h => exact qs_bad n r (by simp at h; omega) _ _ _ _ (by simp [hb, orE]) hq
   ·exact qs_bad n l h _ _ _ _ (by simp [hb, orE]) hq
theorem qs_lt : ∀ (n : Nat) (l : List UInt8), l.length ≤ n → ∀ (k : Nat) (q Q : Quo), quoS l k q = some Q → k ≤ Q.n ∧ Q.n < k + l.length ∧ Q.s.length ≤ q.s.length + l.length
 | _, [], _, k, q, Q, h => by rw [quoS_nil] at h; cases h
 | 0, c :: l, h, _, _, _, _ => by simp at h
 | n + 1, c :: l, h, k, q, Q, hq => by
  simp at h
  rw [quoS_cons] at hq
  split at hq
  ·cases hq; simp
  ·split at hq
   ·match l, h with
    | [], _ => cases hq
    | d :: r, h =>
     have := qs_lt n r (by simp at h; omega) _ _ _ hq
     simp at this ⊢; omega
   ·have := qs_lt n l h _ _ _ hq
    simp at this ⊢; omega
theorem blen_any {g : Nat} {l : List UInt8} {w : World} (h : Bld g l w) : Calls Tryz.prog 131 #[.pointer (some ⟨g, 0, none⟩)] w fun e w' => e = .returned (.int .i64 (l.length : Int)) ∧ w = w' := by
 have hc : ∃ A c, w.cell? ⟨g, 1, none⟩ = some (.slice A l.length c) := by
  have hb : ∀ p, Lib.BuilderAt 114 5 g g p (bv l) w → ∃ A c, w.cell? ⟨g, 1, none⟩ = some (.slice A l.length c) := by
   rintro p ⟨_, v, hb, ⟨_, hv⟩, _⟩
   have hbl : (bv l).length = l.length := by simp [bv]
   rw [hbl] at hv
   rcases hv with ⟨rfl, hn⟩ | ⟨g', cap, cur, rfl, _⟩
   ·exact ⟨none, 0, by rw [Lib.cell_of_heap hb, hn]; rfl⟩
   ·exact ⟨_, _, by rw [Lib.cell_of_heap hb]; rfl⟩
  rcases h with h | h
  ·exact hb _ h
  ·exact hb _ h
 obtain ⟨A, c, hc⟩ := hc
 go_enter Tryz.func131, Tryz.ntmps131
 go_wp2_with fail
 go_ret
 exact ⟨rfl, rfl⟩
theorem wrong_c (c : UInt8) : wrongC c = (decide ((c.toNat : Int) < 32) || decide (126 < (c.toNat : Int))) := by
 unfold wrongC
 congr 1 <;> (rw [Bool.eq_iff_iff]; simp; omega)
theorem map_n {o : Option Quo} {e : Nat} (h : o.map (·.n) = some e) : ∃ Q, o = some Q ∧ Q.n = e := by
 cases o with
 | none => simp at h
 | some Q => exact ⟨Q, rfl, by simpa using h⟩
theorem results_tmp4 {fn : Func} {t u v x : Tmp} (h : fn.results = #[.tmp t, .tmp u, .tmp v, .tmp x]) (tmps : Array Value) (P : Program) (w : World) :
  (results fn tmps).run P w = .ok (.tuple #[tmps.getD t undef, tmps.getD u undef, tmps.getD v undef, tmps.getD x undef]) w := by
 simp [results, h]
theorem quoL_bad {t : List UInt8} {Q : Quo} {k : Nat} (h : quoS (t.drop 1) 1 ⟨0, [], none⟩ = some Q) (hb : Q.bad = some k) : quoL t = ⟨10, k, 3, 0, zeroV⟩ := by
 unfold quoL
 rw [h]
 simp [hb]
theorem quoL_ok {t : List UInt8} {Q : Quo} (h : quoS (t.drop 1) 1 ⟨0, [], none⟩ = some Q) (hb : Q.bad = none) : quoL t = if Q.s.length > 32 then ⟨2, 0, 3, 0, zeroV⟩ else ⟨0, 0, 3, Q.n + 1, ⟨3, 0, Q.s⟩⟩ := by
 unfold quoL
 rw [h]
 simp [hb]
def RetQ (R : TokR) (i : Nat) : Ending := .returned (.tuple #[.int .i64 (R.n : Int), .string ⟨R.v.s.toArray⟩, .int .i64 R.e, .int .i64 (if R.e = 0 then 0 else ((i + R.off : Nat) : Int))])
theorem lquoted_any (g : Nat) (s : List UInt8) (i : Nat) (w : World) (h : Lx w g s i) (hin : i < s.length) (hq : (s[i]).toNat = 34) : Calls Tryz.prog 87 #[.pointer (some ⟨g, 0, none⟩)] w fun e w' => e = RetQ (quoL (s.drop i)) i ∧ Below w.heap.size w w' := by
 have hn := h.n
 have hi := h.i
 have hin' : decide (i ≤ s.length) = true := by simp; omega
 have HL := Lib.hid h
 have hgl := h.lt
 have hsz : (ByteArray.mk s.toArray).size = s.length := by simp [ByteArray.size]
 have hcut := cut_at s i (s.length - i) s.length (by omega)
 rw [List.take_of_length_le (by simp)] at hcut
 have hul : (s.drop i).length = s.length - i := by simp
 have hlt0 : 0 < (s.drop i).length := by omega
 clear h hq
 obtain ⟨t, ht⟩ : ∃ t, s.drop i = t := ⟨_, rfl⟩
 rw [ht] at hcut hul hlt0
 rw [ht]
 have HTL : Hid (i + t.length = s.length) := Lib.hid (by omega)
 have htn : t.length ≤ 20000 := by omega
 have hin1 : Hid (i < s.length) := Lib.hid hin
 clear ht hul hin
 have hsz2 : (ByteArray.mk t.toArray).size = t.length := by simp [ByteArray.size]
 obtain ⟨M, hM⟩ : ∃ M, (quoS (t.drop 1) 1 ⟨0, [], none⟩).map (·.n) = M := ⟨_, rfl⟩
 have HM := Lib.hid hM
 clear hM
 go_enter Tryz.func87, Tryz.ntmps87
 go_wp2_with fail
 refine wp_region_sched [(0, true), (1, true), (2, true), (3, true), (4, true), (5, true), (6, true), (7, true), (8, true), (9, true), (10, true)] (by kernel_rfl) (by kernel_rfl) (fun _ _ d _ _ h => by cases d <;> exact h) ?_
 refine swith (fun W hW => (cells4 (HL.out.next ((Below.refl _ _).drew.trans (hW.out.mono (Nat.le_refl _)))).box)) (fun q => ?_)
 repeat (first | (refine sreadx rfl rfl ?_; apply Exists.intro; apply And.intro; (· (intro W hW; go_simp; try (first | with_reducible rfl | (rw [if_neg (by omega)]; try with_reducible rfl)))); simp only [Act.put, List.setIfInBounds_toArray, List.set_cons_zero, List.set_cons_succ]) | (refine sskip rfl rfl ?_; simp only [Act.put, List.setIfInBounds_toArray, List.set_cons_zero, List.set_cons_succ]))
 refine sdone ?_
 clear q
 clear hcut
 go_wp2_with fail
 go_loop [7] (fun v => ∃ e : Nat, 1 ≤ e ∧ e ≤ t.length + 1 ∧ v = .int .i64 e ∧ Hid ((quoS (t.drop e) e ⟨0, [], none⟩).map (·.n) = M)) (fun v => t.length + 1 - (intOf v).toNat)
 case atStart => exact ⟨1, by omega, by omega, rfl, HM⟩
 case round =>
  obtain ⟨e, he1, he2, rfl, hE⟩ := hrel
  by_cases hlt : e < t.length
  ·have d1 : decide ((e : Int) < (t.length : Int)) = true := by simp; omega
   obtain ⟨c, hc⟩ : ∃ c, t[e] = c := ⟨_, rfl⟩
   have hx := ba_at t e hlt hc
   by_cases h34 : c.toNat = 34
   ·have e1 : ((c.toNat : Int) != 34) = false := by simp; omega
    have e1' : ((c.toNat : Int) == 34) = true := by simp; omega
    have HQ : Hid (M = some e) := Lib.hid (by rw [← hE.out, qs_quote hlt (by rw [hc]; exact h34)]; rfl)
    have H34 := Lib.hid h34
    have HC := Lib.hid hc
    obtain ⟨Q, hQ, hQn⟩ := map_n (HM.out.trans HQ.out)
    have HQ1 := Lib.hid hQ
    have HQn := Lib.hid hQn
    clear h34 hc hQ hQn HM HQ hE
    have d2 : decide ((e : Int) ≥ (t.length : Int)) = false := by simp; omega
    have d3 : decide ((t.length : Int) ≤ (e : Int)) = false := by simp; omega
    go_wp2_with fail
    have BF := Bld.fresh w.drew
    have B0 : Below w.heap.size w (w.drew.alloc (.cells #[.pointer none, .slice none 0 0] 114)) := (Below.refl _ _).drew.alloc (Nat.le_refl _) _
    go_loopw [2, 3, 4, 5, 9] (fun _ _ _ _ v wr => ∃ (j : Nat) (b : List UInt8), 1 ≤ j ∧ j ≤ e ∧ b.length ≤ j ∧ v = .int .i64 j ∧ Hid (quoS (t.drop j) j ⟨0, b, none⟩ = some Q) ∧ Bld w.heap.size b wr ∧ Below w.heap.size w wr) (fun _ _ _ _ v _ => t.length + 1 - (intOf v).toNat)
    case atStart => exact ⟨1, [], by omega, by omega, by simp, rfl, HQ1, BF, B0⟩
    case round =>
     obtain ⟨j, b, hj1, hj2, hb1, rfl, hJ, hB, hbw⟩ := hrel
     clear BF B0
     by_cases hje : j < e
     ·have f1 : decide ((j : Int) < (e : Int)) = true := by simp; omega
      have hjt : j < t.length := by omega
      obtain ⟨c, hc⟩ : ∃ c, t[j] = c := ⟨_, rfl⟩
      have hx := ba_at t j hjt hc
      have h34 : c.toNat ≠ 34 := by
       intro h
       have := hJ.out
       rw [qs_quote hjt (by rw [hc]; exact h)] at this
       injection this with this
       have hq := HQn.out
       rw [← this] at hq
       exact absurd hq (by simp; omega)
      by_cases h92 : c.toNat = 92
      ·have e2 : ((c.toNat : Int) == 92) = true := by simp; omega
       have hj1t : j + 1 < t.length := by
        rcases Nat.lt_or_ge (j + 1) t.length with h | h
        ·exact h
        ·have := hJ.out
         rw [qs_esc_end (t := t) (k := j) (by omega) (by rw [hc]; exact h92)] at this
         cases this
       obtain ⟨d, hd⟩ : ∃ d, t[j + 1] = d := ⟨_, rfl⟩
       have hx2 := ba_at t (j + 1) hj1t hd
       have hJ2 := hJ.out
       rw [qs_esc hj1t (by rw [hc]; exact h92), hd] at hJ2
       have hlt2 := (qs_lt _ _ (Nat.le_refl _) _ _ _ hJ2).1
       rw [HQn.out] at hlt2
       clear hc hd h34 h92
       by_cases hesc : d.toNat = 34 ∨ d.toNat = 92
       ·have hJ3 : Hid (quoS (t.drop (j + 2)) (j + 2) ⟨0, b ++ [d], none⟩ = some Q) := Lib.hid (by
         have hw : (!escC d || wrongC d) = false := by unfold escC wrongC; rcases hesc with h | h <;> simp [h]
         rw [hw] at hJ2
         exact hJ2)
        have f32 : decide ((d.toNat : Int) < 32) = false := by simp; omega
        have f126 : decide ((d.toNat : Int) > 126) = false := by simp; omega
        have f126' : decide (126 < (d.toNat : Int)) = false := by simp; omega
        clear hJ2
        rcases hesc with h | h
        ·have e3 : ((d.toNat : Int) != 34) = false := by simp; omega
         have e3' : ((d.toNat : Int) == 34) = true := by simp; omega
         clear h
         go_wp2_with fail
         refine (write_any hB d (by omega) (by omega)).mono ?_; rintro e w3 ⟨rfl, d3, b3⟩
         go_wp2_with fail
         go_roundw
         case rel => exact ⟨j + 2, b ++ [d], by omega, by omega, by simp; omega, by go_num, hJ3, d3, Below.trans hbw b3⟩
         case measure => simp [intOf]; omega
        ·have e3 : ((d.toNat : Int) != 34) = true := by simp; omega
         have e3' : ((d.toNat : Int) == 34) = false := by simp; omega
         have e4 : ((d.toNat : Int) != 92) = false := by simp; omega
         have e4' : ((d.toNat : Int) == 92) = true := by simp; omega
         clear h
         go_wp2_with fail
         refine (write_any hB d (by omega) (by omega)).mono ?_; rintro e w3 ⟨rfl, d3, b3⟩
         go_wp2_with fail
         go_roundw
         case rel => exact ⟨j + 2, b ++ [d], by omega, by omega, by simp; omega, by go_num, hJ3, d3, Below.trans hbw b3⟩
         case measure => simp [intOf]; omega
       ·have hbad : Hid (quoL t = ⟨10, j + 1, 3, 0, zeroV⟩) := Lib.hid (by
         have hw : (!escC d || wrongC d) = true := by unfold escC; simp; left; omega
         rw [hw] at hJ2
         exact quoL_bad HQ1.out (qs_bad _ _ (Nat.le_refl _) _ _ _ (j + 1) (by simp [orE]) hJ2))
        have e3 : ((d.toNat : Int) != 34) = true := by simp; omega
        have e3' : ((d.toNat : Int) == 34) = false := by simp; omega
        have e4 : ((d.toNat : Int) != 92) = true := by simp; omega
        have e4' : ((d.toNat : Int) == 92) = false := by simp; omega
        clear hJ2 hesc
        obtain ⟨m, hm⟩ : ∃ m, i + (j + 1) = m := ⟨_, rfl⟩
        have hwr : IntKind.i64.wrap ((i : Int) + ((j : Int) + 1)) = (m : Int) := by rw [IntWalk.i64_in _ (by omega)]; omega
        have HMM := Lib.hid hm
        clear hm
        go_wp2_with fail
        refine wp_region_sched [(0, true), (1, true), (2, true), (3, true), (4, true), (5, true), (6, true), (7, true), (8, true), (9, true), (10, true)] (by kernel_rfl) (by kernel_rfl) (fun _ _ d _ _ h => by cases d <;> exact h) ?_
        refine swith (fun W hW => (cells4 (HL.out.next (hbw.drew.trans (hW.out.mono hbw.size))).box)) (fun q => ?_)
        repeat (first | (refine sreadx rfl rfl ?_; apply Exists.intro; apply And.intro; (· (intro W hW; go_simp; try (first | with_reducible rfl | (rw [if_neg (by omega)]; try with_reducible rfl)))); simp only [Act.put, List.setIfInBounds_toArray, List.set_cons_zero, List.set_cons_succ]) | (refine sskip rfl rfl ?_; simp only [Act.put, List.setIfInBounds_toArray, List.set_cons_zero, List.set_cons_succ]))
        refine sdone ?_
        clear q
        go_wp2_with fail
        (try simp only [Exit.inBlock, Exit.then]); refine bodyPost_ret (results_tmp4 rfl _ _ _) rfl ?_
        refine ⟨?_, hbw.drew⟩
        rw [hbad.out]
        have := HMM.out
        unfold RetQ
        simp only [Array.getD, zeroV]
        simp
        omega
      ·have e2 : ((c.toNat : Int) == 92) = false := by simp; omega
       have hJ2 := hJ.out
       rw [qs_go hjt (by rw [hc]; exact h34) (by rw [hc]; exact h92), hc] at hJ2
       have hlt2 := (qs_lt _ _ (Nat.le_refl _) _ _ _ hJ2).1
       rw [HQn.out] at hlt2
       clear hc h34 h92
       have hwc := wrong_c c
       cases hw : wrongC c
       ·rw [hw] at hwc hJ2
        have hw2 := Bool.or_eq_false_iff.1 hwc.symm
        have hJ3 : Hid (quoS (t.drop (j + 1)) (j + 1) ⟨0, b ++ [c], none⟩ = some Q) := Lib.hid hJ2
        have f32 : decide ((c.toNat : Int) < 32) = false := hw2.1
        have f126 : decide ((c.toNat : Int) > 126) = false := hw2.2
        have f126' : decide (126 < (c.toNat : Int)) = false := hw2.2
        clear hJ2 hw hwc hw2
        go_wp2_with fail
        refine (write_any hB c (by omega) (by omega)).mono ?_; rintro e w3 ⟨rfl, d3, b3⟩
        go_wp2_with fail
        go_roundw
        case rel => exact ⟨j + 1, b ++ [c], by omega, by omega, by simp; omega, by go_num, hJ3, d3, Below.trans hbw b3⟩
        case measure => simp [intOf]; omega
       ·have hbad : Hid (quoL t = ⟨10, j, 3, 0, zeroV⟩) := Lib.hid (by
         rw [hw] at hJ2
         exact quoL_bad HQ1.out (qs_bad _ _ (Nat.le_refl _) _ _ _ j (by simp [orE]) hJ2))
        rw [hw] at hwc
        clear hJ2 hw
        cases f32 : decide ((c.toNat : Int) < 32)
        ·rw [f32] at hwc
         have f126' : decide (126 < (c.toNat : Int)) = true := by simpa using hwc.symm
         have f126 : decide ((c.toNat : Int) > 126) = true := f126'
         clear hwc
         obtain ⟨m, hm⟩ : ∃ m, i + (j) = m := ⟨_, rfl⟩
         have hwr : IntKind.i64.wrap ((i : Int) + (j : Int)) = (m : Int) := by rw [IntWalk.i64_in _ (by omega)]; omega
         have HMM := Lib.hid hm
         clear hm
         go_wp2_with fail
         refine wp_region_sched [(0, true), (1, true), (2, true), (3, true), (4, true), (5, true), (6, true), (7, true), (8, true), (9, true), (10, true)] (by kernel_rfl) (by kernel_rfl) (fun _ _ d _ _ h => by cases d <;> exact h) ?_
         refine swith (fun W hW => (cells4 (HL.out.next (hbw.drew.trans (hW.out.mono hbw.size))).box)) (fun q => ?_)
         repeat (first | (refine sreadx rfl rfl ?_; apply Exists.intro; apply And.intro; (· (intro W hW; go_simp; try (first | with_reducible rfl | (rw [if_neg (by omega)]; try with_reducible rfl)))); simp only [Act.put, List.setIfInBounds_toArray, List.set_cons_zero, List.set_cons_succ]) | (refine sskip rfl rfl ?_; simp only [Act.put, List.setIfInBounds_toArray, List.set_cons_zero, List.set_cons_succ]))
         refine sdone ?_
         clear q
         go_wp2_with fail
         (try simp only [Exit.inBlock, Exit.then]); refine bodyPost_ret (results_tmp4 rfl _ _ _) rfl ?_
         refine ⟨?_, hbw.drew⟩
         rw [hbad.out]
         have := HMM.out
         unfold RetQ
         simp only [Array.getD, zeroV]
         simp
         omega
        ·clear hwc
         obtain ⟨m, hm⟩ : ∃ m, i + (j) = m := ⟨_, rfl⟩
         have hwr : IntKind.i64.wrap ((i : Int) + (j : Int)) = (m : Int) := by rw [IntWalk.i64_in _ (by omega)]; omega
         have HMM := Lib.hid hm
         clear hm
         go_wp2_with fail
         refine wp_region_sched [(0, true), (1, true), (2, true), (3, true), (4, true), (5, true), (6, true), (7, true), (8, true), (9, true), (10, true)] (by kernel_rfl) (by kernel_rfl) (fun _ _ d _ _ h => by cases d <;> exact h) ?_
         refine swith (fun W hW => (cells4 (HL.out.next (hbw.drew.trans (hW.out.mono hbw.size))).box)) (fun q => ?_)
         repeat (first | (refine sreadx rfl rfl ?_; apply Exists.intro; apply And.intro; (· (intro W hW; go_simp; try (first | with_reducible rfl | (rw [if_neg (by omega)]; try with_reducible rfl)))); simp only [Act.put, List.setIfInBounds_toArray, List.set_cons_zero, List.set_cons_succ]) | (refine sskip rfl rfl ?_; simp only [Act.put, List.setIfInBounds_toArray, List.set_cons_zero, List.set_cons_succ]))
         refine sdone ?_
         clear q
         go_wp2_with fail
         (try simp only [Exit.inBlock, Exit.then]); refine bodyPost_ret (results_tmp4 rfl _ _ _) rfl ?_
         refine ⟨?_, hbw.drew⟩
         rw [hbad.out]
         have := HMM.out
         unfold RetQ
         simp only [Array.getD, zeroV]
         simp
         omega
     ·obtain rfl : j = e := by omega
      have f1 : decide ((j : Int) < (j : Int)) = false := by simp
      have hQ2 := hJ.out
      rw [qs_quote hlt (HC.out.symm ▸ H34.out)] at hQ2
      injection hQ2 with hQ2
      have hok := quoL_ok HQ1.out (by rw [← hQ2])
      have hs : Q.s = b := by rw [← hQ2]
      have hnn : Q.n = j := HQn.out
      rw [hs, hnn] at hok
      have HOK := Lib.hid hok
      clear hok hs hnn hQ2
      go_wp2_with fail
      refine (blen_any hB).mono ?_; rintro e w3 ⟨rfl, rfl⟩
      by_cases hbig : b.length > 32
      ·have g1 : decide ((b.length : Int) > 32) = true := by simp; omega
       have g1' : decide (32 < (b.length : Int)) = true := by simp; omega
       have HO := Lib.hid (HOK.out.trans (if_pos hbig))
       clear hbig
       go_wp2_with fail
       refine wp_region_sched [(0, true), (1, true), (2, true), (3, true), (4, true), (5, true), (6, true), (7, true), (8, true)] (by kernel_rfl) (by kernel_rfl) (fun _ _ d _ _ h => by cases d <;> exact h) ?_
       refine swith (fun W hW => (cells4 (HL.out.next (hbw.drew.trans (hW.out.mono hbw.size))).box)) (fun q => ?_)
       repeat (first | (refine sreadx rfl rfl ?_; apply Exists.intro; apply And.intro; (· (intro W hW; go_simp; try (first | with_reducible rfl | (rw [if_neg (by omega)]; try with_reducible rfl)))); simp only [Act.put, List.setIfInBounds_toArray, List.set_cons_zero, List.set_cons_succ]) | (refine sskip rfl rfl ?_; simp only [Act.put, List.setIfInBounds_toArray, List.set_cons_zero, List.set_cons_succ]))
       refine sdone ?_
       clear q
       go_wp2_with fail
       (try simp only [Exit.inBlock, Exit.then]); refine bodyPost_ret (results_tmp4 rfl _ _ _) rfl ?_
       refine ⟨?_, hbw.drew⟩
       rw [HO.out]
       unfold RetQ
       simp only [Array.getD, zeroV]
       simp
      ·have g1 : decide ((b.length : Int) > 32) = false := by simp; omega
       have g1' : decide (32 < (b.length : Int)) = false := by simp; omega
       have HO := Lib.hid (HOK.out.trans (if_neg hbig))
       clear hbig
       go_wp2_with fail
       refine (string_any hB).mono ?_; rintro e w3 ⟨rfl, b3⟩
       go_wp2_with fail
       (try simp only [Exit.inBlock, Exit.then]); refine bodyPost_ret (results_tmp4 rfl _ _ _) rfl ?_
       refine ⟨?_, Below.trans hbw b3⟩
       rw [HO.out]
       unfold RetQ
       simp only [Array.getD]
       simp
   ·have e1 : ((c.toNat : Int) != 34) = true := by simp; omega
    have e1' : ((c.toNat : Int) == 34) = false := by simp; omega
    by_cases h92 : c.toNat = 92
    ·have e2 : ((c.toNat : Int) == 92) = true := by simp; omega
     have hE2 : Hid ((quoS (t.drop (e + 2)) (e + 2) ⟨0, [], none⟩).map (·.n) = M) := Lib.hid (by
      rw [← hE.out]
      by_cases h1 : e + 1 < t.length
      ·rw [qs_esc h1 (by rw [hc]; exact h92)]; exact qs_n _ _ (Nat.le_refl _) _ _ _
      ·rw [qs_esc_end (t := t) (k := e) (by omega) (by rw [hc]; exact h92), qs_end (t := t) (k := e + 2) (by omega)])
     clear hc h34 h92
     go_wp2_with fail
     go_round
     case rel => exact ⟨e + 2, by omega, by omega, by go_num, hE2⟩
     case measure => simp [intOf]; omega
    ·have e2 : ((c.toNat : Int) == 92) = false := by simp; omega
     have hE2 : Hid ((quoS (t.drop (e + 1)) (e + 1) ⟨0, [], none⟩).map (·.n) = M) := Lib.hid (by
      rw [← hE.out, qs_go hlt (by rw [hc]; exact h34) (by rw [hc]; exact h92)]; exact qs_n _ _ (Nat.le_refl _) _ _ _)
     clear hc h34 h92
     go_wp2_with fail
     go_round
     case rel => exact ⟨e + 1, by omega, by omega, by go_num, hE2⟩
     case measure => simp [intOf]; omega
  ·have d1 : decide ((e : Int) < (t.length : Int)) = false := by simp; omega
   have d2 : decide ((e : Int) ≥ (t.length : Int)) = true := by simp; omega
   have d3 : decide ((t.length : Int) ≤ (e : Int)) = true := by simp; omega
   have HQ : Hid (quoL t = ⟨12, t.length, 3, 0, zeroV⟩) := Lib.hid (by
    have h1 := HM.out
    rw [← hE.out, qs_end (t := t) (k := e) (by omega)] at h1
    unfold quoL
    cases hh : quoS (t.drop 1) 1 ⟨0, [], none⟩ with
    | none => rfl
    | some Q => rw [hh] at h1; cases h1)
   go_wp2_with fail
   refine wp_region_sched [(0, true), (1, true), (2, true), (3, true), (4, true), (5, true), (6, true), (7, true), (8, true)] (by kernel_rfl) (by kernel_rfl) (fun _ _ d _ _ h => by cases d <;> exact h) ?_
   refine swith (fun W hW => (cells4 (HL.out.next ((Below.refl _ _).drew.drew.trans (hW.out.mono (Nat.le_refl _)))).box)) (fun q => ?_)
   repeat (first | (refine sreadx rfl rfl ?_; apply Exists.intro; apply And.intro; (· (intro W hW; go_simp; try (first | with_reducible rfl | (rw [if_neg (by omega)]; try with_reducible rfl)))); simp only [Act.put, List.setIfInBounds_toArray, List.set_cons_zero, List.set_cons_succ]) | (refine sskip rfl rfl ?_; simp only [Act.put, List.setIfInBounds_toArray, List.set_cons_zero, List.set_cons_succ]))
   refine sdone ?_
   clear q
   go_wp2_with fail
   (try simp only [Exit.inBlock, Exit.then]); refine bodyPost_ret (results_tmp4 rfl _ _ _) rfl ?_
   refine ⟨?_, (Below.refl _ _).drew.drew⟩
   rw [HQ.out]
   have := HTL.out
   unfold RetQ
   simp only [Array.getD, zeroV]
   simp
   omega
end Go.Proofs.YtnbmpfdffoidaaaGreatDoor.X
namespace Go.Proofs.YtnbmpfdffoidaaaGreatDoor
open Go.RowKit
def KB (bs : List Nat) (w W : World) : Prop := ∀ b ∈ bs, W.heap[b]? = w.heap[b]?
theorem KB.refl (bs : List Nat) (w : World) : KB bs w w := fun _ _ => rfl
theorem KB.trans {bs : List Nat} {a b c : World} (h : KB bs a b) (k : KB bs b c) : KB bs a c := fun x hx => (k x hx).trans (h x hx)
theorem KB.one {b : Nat} {w W : World} (h : KB [b] w W) {o : Obj} (hb : w.heap[b]? = some o) : W.heap[b]? = some o := (h b (by simp)).trans hb
theorem KB.of_below {bs : List Nat} {w W : World} (h : Below w.heap.size w W) (hb : ∀ b ∈ bs, b < w.heap.size) : KB bs w W := fun b hx => h.block b (hb b hx)
section
variable {P : Program} {ops : Array Oper} {Q : Exit → Act → World → Prop} {md : Region.Mode} {bs : List Nat}
theorem wpAnyH_impB {S S' : World → Prop} (h : ∀ W, S' W → S W) : ∀ (fuel : Nat) (listed : Array Bool) (a : Act) (w : World), wpAnyH P md ops Q S' fuel listed a w → wpAnyH P md ops Q S fuel listed a w
 | 0, _, _, _, hh => hh
 | fuel + 1, _, _, _, hh => ⟨hh.1, fun i hi => wpOp_mono (fun a' w' h' => ⟨h w' h'.1, wpAnyH_impB h fuel _ a' w' h'.2⟩) (hh.2 i hi)⟩
def wpSchedB (bs : List Nat) (P : Program) (ops : Array Oper) (Q : Exit → Act → World → Prop) : List (Nat × Bool) → Act → World → Prop
  | [], a, w => Q .normal a w
  | (i, true) :: rest, a, w => ∃ o, ops[i]? = some o ∧
      ((Region.wanted o (yielded ops a.tmps) = true ∧ ∃ v, (∀ W, KB bs w W → (execOp a.eval o).run P W = .ok (.value v) W) ∧ wpSchedB bs P ops Q rest (a.put o.dst v) w) ∨
       (Region.wanted o (yielded ops a.tmps) = false ∧ wpSchedB bs P ops Q rest (a.put o.dst undef) w))
  | (i, false) :: rest, a, w => ∃ o, ops[i]? = some o ∧
      ((Region.wanted o (yielded ops a.tmps) = true ∧ o.wp P a w (fun a' w' => KB bs w w' ∧ wpSchedB bs P ops Q rest a' w') Q) ∨
       (Region.wanted o (yielded ops a.tmps) = false ∧ wpSchedB bs P ops Q rest (a.put o.dst undef) w))
def schedOkB (md : Region.Mode) (ops : Array Oper) : Array Bool → List (Nat × Bool) → Bool
 | listed, [] => (Region.ready md ops listed).isEmpty
 | listed, (i, true) :: rest => Region.free md ops listed i && (Region.ready md ops listed).contains i && schedOkB md ops (listed.setIfInBounds i true) rest
 | listed, (i, false) :: rest => (Region.ready md ops listed == [i]) && schedOkB md ops (listed.setIfInBounds i true) rest
theorem wpAnyH_schedB (hs : Region.noSelect ops = true) (hQ : ∀ c a d v w, Q (.panic c) (a.put d v) w → Q (.panic c) a w) :
  ∀ (steps : List (Nat × Bool)) (listed : Array Bool) (a : Act) (w : World), schedOkB md ops listed steps = true → wpSchedB bs P ops Q steps a w → wpAnyH P md ops Q (KB bs w) steps.length listed a w
 | [], listed, a, w, hok, h => ⟨by simpa [schedOkB] using hok, h⟩
 | (i, true) :: rest, listed, a, w, hok, h => by
  simp only [schedOkB, Bool.and_eq_true] at hok
  obtain ⟨⟨hf, hr⟩, hok⟩ := hok
  obtain ⟨o, hi, h⟩ := h
  rcases h with ⟨hw, v, hv, h⟩ | ⟨hw, h⟩
  ·exact wpAnyH_take (v := v) hi hs hf hr (fun c a w => hQ c a o.dst v w) (.inl ⟨hw, hv⟩) (KB.refl bs w) (wpAnyH_schedB hs hQ rest _ _ w hok h)
  ·exact wpAnyH_take (v := undef) hi hs hf hr (fun c a w => hQ c a o.dst undef w) (.inr ⟨hw, rfl⟩) (KB.refl bs w) (wpAnyH_schedB hs hQ rest _ _ w hok h)
 | (i, false) :: rest, listed, a, w, hok, h => by
  simp only [schedOkB, Bool.and_eq_true, beq_iff_eq] at hok
  obtain ⟨hr, hok⟩ := hok
  obtain ⟨o, hi, h⟩ := h
  refine wpAnyH_all hr (by simp) fun j hj => ?_
  obtain rfl : j = i := by simpa using hj
  unfold wpOp
  simp only [hi]
  rcases h with ⟨hw, h⟩ | ⟨hw, h⟩
  ·simp only [hw, if_true]
   refine .inl (Oper.wp_mono (fun a' w' h' => ⟨h'.1, ?_⟩) h)
   exact wpAnyH_impB (fun W hW => KB.trans h'.1 hW) _ _ _ _ (wpAnyH_schedB hs hQ rest _ a' w' hok h'.2)
  ·simp only [hw, Bool.false_eq_true, if_false]
   exact ⟨KB.refl bs w, wpAnyH_schedB hs hQ rest _ _ w hok h⟩
theorem wp_region_schedB (bs : List Nat) {id : Nat} {a : Act} {w : World} (steps : List (Nat × Bool)) (hm : P.follows .mixedOrders = true)
  (hok : (Region.noSelect ops && steps.length == ops.size && schedOkB .any ops (Array.replicate ops.size false) steps) = true)
  (hQ : ∀ c a d v w, Q (.panic c) (a.put d v) w → Q (.panic c) a w) (h : wpSchedB bs P ops Q steps a w.drew) : (Code.region id ops true).wp P Q a w := by
 simp only [Bool.and_eq_true, beq_iff_eq] at hok
 obtain ⟨⟨hs, hl⟩, hok⟩ := hok
 refine wp_region_held (S := KB bs w.drew) hm ?_
 rw [← hl]
 exact wpAnyH_schedB hs hQ steps _ a w.drew (by rw [hl]; exact hok) h
theorem bskip {l : List Oper} {i : Nat} {b : Bool} {rest : List (Nat × Bool)} {a : Act} {w : World} {o : Oper} (hi : l[i]? = some o) (hw : Region.wanted o (yielded l.toArray a.tmps) = false)
  (h : wpSchedB bs P l.toArray Q rest (a.put o.dst undef) w) : wpSchedB bs P l.toArray Q ((i, b) :: rest) a w := by cases b <;> exact ⟨o, by simpa using hi, .inr ⟨hw, h⟩⟩
theorem bdone {a : Act} {w : World} (h : Q .normal a w) : wpSchedB bs P ops Q [] a w := h
theorem bcall {l : List Oper} {i : Nat} {rest : List (Nat × Bool)} {a : Act} {w : World} {o : Oper} (hi : l[i]? = some o) (hw : Region.wanted o (yielded l.toArray a.tmps) = true)
  (h : ∀ K : Act → World → Prop, Shut (∀ a' w', KB bs w w' → wpSchedB bs P l.toArray Q rest a' w' → K a' w') → o.wp P a w K Q) : wpSchedB bs P l.toArray Q ((i, false) :: rest) a w :=
 ⟨o, by simpa using hi, .inl ⟨hw, h _ (fun _ _ hg hk => ⟨hg, hk⟩)⟩⟩
theorem sreadxB {l : List Oper} {i : Nat} {rest : List (Nat × Bool)} {a : Act} {w : World} {o : Oper} (hi : l[i]? = some o) (hw : Region.wanted o (yielded l.toArray a.tmps) = true)
  (h : ∃ v, (∀ W, KB bs w W → (execOp a.eval o).run P W = .ok (.value v) W) ∧ wpSchedB bs P l.toArray Q rest (a.put o.dst v) w) : wpSchedB bs P l.toArray Q ((i, true) :: rest) a w := ⟨o, by simpa using hi, .inl ⟨hw, h⟩⟩
theorem bwith {steps : List (Nat × Bool)} {a : Act} {w : World} {p : World → Prop} (h1 : ∀ W, KB bs w W → p W) (h2 : (∀ W, KB bs w W → p W) → wpSchedB bs P ops Q steps a w) : wpSchedB bs P ops Q steps a w := h2 h1
end
end Go.Proofs.YtnbmpfdffoidaaaGreatDoor
namespace Go.Proofs.YtnbmpfdffoidaaaGreatDoor.X
open Go.RowKit O V S
def tkCells (k : Int) (x : List UInt8) (v : Val) (s : List UInt8) (i : Nat) : List Value := [.int .i64 k, .string ⟨x.toArray⟩, .int .i64 v.k, .int .i64 v.n, .string ⟨v.s.toArray⟩, .int .i64 (i : Int), .int .i64 (lineOf s i : Int), .int .i64 ((i : Int) - (startOf s i : Int) + 1)]
theorem tokL_cons (c : UInt8) (r : List UInt8) : tokL (c :: r) = if smallC c then (if runLen wordC (c :: r) > 16 then ⟨2, 0, 1, 0, zeroV⟩ else ⟨0, 0, 1, runLen wordC (c :: r), zeroV⟩)
  else if digitC c then (if numOk ((c :: r).take (runLen digitC (c :: r))) then ⟨0, 0, 2, runLen digitC (c :: r), ⟨1, (numV ((c :: r).take (runLen digitC (c :: r))) : Nat), []⟩⟩ else ⟨11, 0, 2, 0, zeroV⟩)
  else if c.toNat = 34 then quoL (c :: r)
  else if signL (c :: r) = 0 then ⟨10, 0, 4, 0, zeroV⟩ else ⟨0, 0, 4, signL (c :: r), zeroV⟩ := rfl
theorem quoL_cases (t : List UInt8) (h : 0 < t.length) : (∃ n x, quoL t = ⟨0, 0, 3, n, ⟨3, 0, x⟩⟩ ∧ n ≤ t.length) ∨ (∃ e off, quoL t = ⟨e, off, 3, 0, zeroV⟩ ∧ (e = 12 ∨ e = 10 ∨ e = 2)) := by
 cases hq : quoS (t.drop 1) 1 ⟨0, [], none⟩ with
 | none => exact .inr ⟨12, t.length, by unfold quoL; rw [hq], .inl rfl⟩
 | some Q =>
  cases hb : Q.bad with
  | some k => exact .inr ⟨10, k, quoL_bad hq hb, .inr (.inl rfl)⟩
  | none =>
   have h1 := quoL_ok hq hb
   have h2 := (qs_lt _ _ (Nat.le_refl _) _ _ _ hq).2.1
   simp at h2
   split at h1
   ·exact .inr ⟨2, 0, h1, .inr (.inr rfl)⟩
   ·exact .inl ⟨_, _, h1, by omega⟩
theorem run_take (p : UInt8 → Bool) : ∀ (t : List UInt8) (j : Nat) (h : j < (t.take (runLen p t)).length), p (t.take (runLen p t))[j] = true
  | [], j, h => by simp at h
  | c :: r, j, h => by
    have hp : p c = true := by
      cases hc : p c
      · have e : runLen p (c :: r) = 0 := by unfold runLen; rw [if_neg (by simp [hc])]
        rw [e] at h; simp at h
      · rfl
    have e : runLen p (c :: r) = runLen p r + 1 := by conv => lhs; unfold runLen
                                                      rw [if_pos hp]
    match j with
    | 0 => simp only [e, List.take_succ_cons, List.getElem_cons_zero]; exact hp
    | j + 1 =>
      simp only [e, List.take_succ_cons, List.getElem_cons_succ]
      simp only [e, List.take_succ_cons, List.length_cons] at h
      exact run_take p r j (by omega)
theorem sign_le : ∀ t : List UInt8, 0 < t.length → signL t ≤ t.length
 | [c], _ => by
  have e : signL [c] = if one c.toNat then 1 else 0 := rfl
  rw [e]; split <;> simp
 | c :: d :: r, _ => by
  have e : signL (c :: d :: r) = if two c.toNat d.toNat then 2 else if one c.toNat then 1 else 0 := rfl
  rw [e]
  split
  ·simp
  ·split <;> simp
theorem cells8 {W : World} {b : Nat} {x0 x1 x2 x3 x4 x5 x6 x7 : Value} {T : TypeId} (h : W.heap[b]? = some (.cells #[x0, x1, x2, x3, x4, x5, x6, x7] T (0, 0))) : W.cell? ⟨b, 0, none⟩ = some x0 ∧ W.cell? ⟨b, 1, none⟩ = some x1 ∧ W.cell? ⟨b, 2, none⟩ = some x2 ∧ W.cell? ⟨b, 3, none⟩ = some x3 ∧ W.cell? ⟨b, 4, none⟩ = some x4 ∧ W.cell? ⟨b, 5, none⟩ = some x5 ∧ W.cell? ⟨b, 6, none⟩ = some x6 ∧ W.cell? ⟨b, 7, none⟩ = some x7 := by
 refine ⟨?_, ?_, ?_, ?_, ?_, ?_, ?_, ?_⟩ <;> (rw [Lib.cell_of_heap h]; rfl)
theorem frozen8 {W : World} {b : Nat} {cs : Array Value} {T : TypeId} (h : W.heap[b]? = some (.cells cs T (0, 0))) : W.frozen? ⟨b, 0, none⟩ = false ∧ W.frozen? ⟨b, 1, none⟩ = false ∧ W.frozen? ⟨b, 2, none⟩ = false ∧ W.frozen? ⟨b, 3, none⟩ = false ∧ W.frozen? ⟨b, 4, none⟩ = false ∧ W.frozen? ⟨b, 5, none⟩ = false ∧ W.frozen? ⟨b, 6, none⟩ = false ∧ W.frozen? ⟨b, 7, none⟩ = false :=
 ⟨Lib.frozen_of_heap h 0, Lib.frozen_of_heap h 1, Lib.frozen_of_heap h 2, Lib.frozen_of_heap h 3, Lib.frozen_of_heap h 4, Lib.frozen_of_heap h 5, Lib.frozen_of_heap h 6, Lib.frozen_of_heap h 7⟩
def RetT (R : TokR) (t s : List UInt8) (i : Nat) : Ending := .returned (.tuple #[.agg (tkCells R.k (t.take R.n) R.v s i).toArray, .int .i64 R.e, .int .i64 (if R.e = 0 then 0 else ((i + R.off : Nat) : Int))])
def TkI (w : World) (g : Nat) (s : List UInt8) (j : Nat) (W : World) : Prop := Lx W g s j ∧ w.grownBy W (some g)
theorem tki_set {w W : World} {g j b x : Nat} {s : List UInt8} {v : Value} (h : TkI w g s j W) (hb : w.heap.size ≤ b) (hg : g < w.heap.size) : TkI w g s j (W.setCell ⟨b, x, none⟩ v) := by
 have hne : g ≠ b := by omega
 exact ⟨⟨(Below.heap_setCell _ _ _ _ hne).trans h.1.box, h.1.i, h.1.n⟩, h.2.os, h.2.tape, h.2.output, by simpa using h.2.size, fun i hi hr => (Below.heap_setCell _ _ _ _ (show i ≠ b by omega)).trans (h.2.block i hi hr)⟩
theorem tki_below {w W : World} {g j : Nat} {s : List UInt8} (B : Below w.heap.size w W) (h : Lx w g s j) : TkI w g s j W := ⟨h.next B, gb_below B _⟩
theorem token_any (g : Nat) (s : List UInt8) (i : Nat) (w : World) (h : Lx w g s i) (hin : i < s.length) : Calls Tryz.prog 42 #[.pointer (some ⟨g, 0, none⟩)] w fun e w' => e = RetT (tokL (s.drop i)) (s.drop i) s i ∧ Lx w' g s (i + (tokL (s.drop i)).n) ∧ w.grownBy w' (some g) := by
 have hn := h.n
 have hi := h.i
 have HL := Lib.hid h
 have hgl := h.lt
 have hsz : (ByteArray.mk s.toArray).size = s.length := by simp [ByteArray.size]
 have hle := lineOf_le s i
 have hse := startOf_le s i
 obtain ⟨c, hc⟩ : ∃ c, s[i] = c := ⟨_, rfl⟩
 have hx := ba_at s i hin hc
 have HD : Hid (s.drop i = c :: s.drop (i + 1)) := Lib.hid (by rw [← hc]; exact List.drop_eq_getElem_cons hin)
 clear h hc
 go_enter Tryz.func42, Tryz.ntmps42
 go_wp2_with fail
 have hgw : g ≠ w.heap.size := by omega
 have B0 : Below w.heap.size w (w.alloc (.cells #[.int .i64 0, .string ⟨#[]⟩, .int .i64 0, .int .i64 0, .string ⟨#[]⟩, .int .i64 0, .int .i64 0, .int .i64 0] 101)) := (Below.refl _ _).alloc (Nat.le_refl _) _
 have L0 := Lib.hid (HL.out.next B0)
 refine wp_region_schedB [g] [(0, true), (1, true), (2, true), (3, true), (5, true), (6, true), (7, true), (8, true), (9, true), (4, false), (10, true), (11, false), (12, true)] (by kernel_rfl) (by kernel_rfl) (fun _ _ d _ _ h => by cases d <;> exact h) ?_
 refine bwith (fun W hW => (cells4 (hW.one L0.out.box))) (fun q => ?_)
 repeat (first | (refine sreadxB rfl rfl ?_; apply Exists.intro; apply And.intro; (· (intro W hW; go_simp; try (first | with_reducible rfl | (rw [if_neg (by omega)]; try with_reducible rfl)))); simp only [Act.put, List.setIfInBounds_toArray, List.set_cons_zero, List.set_cons_succ]) | (refine bskip rfl rfl ?_; simp only [Act.put, List.setIfInBounds_toArray, List.set_cons_zero, List.set_cons_succ]))
 generalize hT : (w.alloc (.cells #[.int .i64 0, .string ⟨#[]⟩, .int .i64 0, .int .i64 0, .string ⟨#[]⟩, .int .i64 0, .int .i64 0, .int .i64 0] 101)) = W0 at *
 have X0 : W0.heap[w.heap.size]? = some (.cells #[.int .i64 0, .string ⟨#[]⟩, .int .i64 0, .int .i64 0, .string ⟨#[]⟩, .int .i64 0, .int .i64 0, .int .i64 0] 101 (0, 0)) := by rw [← hT]; exact heap_alloc_new _ _
 have HX0 := Lib.hid X0
 clear hT X0
 have hgW : g < W0.heap.size := L0.out.lt
 have hbW : w.heap.size < W0.heap.size := (Array.getElem?_eq_some_iff.1 HX0.out).1
 refine bcall rfl rfl (fun K hK => ?_)
 go_simp
 refine (here_any i (lineOf s i) (startOf s i) _ (by omega) (by omega)).mono ?_; rintro e w2 ⟨rfl, b2⟩
 go_wp2_with fail
 refine hK.out _ _ (by exact KB.of_below b2 (fun k hk => by simp at hk; subst hk; exact hgW)) ?_
 clear hK K
 try simp only [Act.put, List.setIfInBounds_toArray, List.set_cons_zero, List.set_cons_succ]
 have BW2 : Below W0.heap.size W0 w2 := (Below.refl _ _).drew.trans b2
 have X2 := box_next HX0.out BW2
 have L2 := Lib.hid (L0.out.next BW2)
 have G2 := Lib.hid (gb_trans (gb_below B0 (some g)) (gb_below BW2 (some g)))
 clear q b2
 repeat (first | (refine sreadxB rfl rfl ?_; apply Exists.intro; apply And.intro; (· (intro W hW; go_simp; try (first | with_reducible rfl | (rw [if_neg (by omega)]; try with_reducible rfl)))); simp only [Act.put, List.setIfInBounds_toArray, List.set_cons_zero, List.set_cons_succ]) | (refine bskip rfl rfl ?_; simp only [Act.put, List.setIfInBounds_toArray, List.set_cons_zero, List.set_cons_succ]))
 simp only [pv]
 have f5 := Lib.frozen_of_heap X2 5
 have f6 := Lib.frozen_of_heap X2 6
 have f7 := Lib.frozen_of_heap X2 7
 have c5 : w2.cell? ⟨w.heap.size, 5, none⟩ = some (.int .i64 0) := by rw [Lib.cell_of_heap X2]; rfl
 have c6 : w2.cell? ⟨w.heap.size, 6, none⟩ = some (.int .i64 0) := by rw [Lib.cell_of_heap X2]; rfl
 have c7 : w2.cell? ⟨w.heap.size, 7, none⟩ = some (.int .i64 0) := by rw [Lib.cell_of_heap X2]; rfl
 refine bcall rfl rfl (fun K hK => ?_)
 go_simp
 refine hK.out _ _ (fun k hk => ?_) ?_
 ·simp at hk; subst hk
  exact (Below.heap_setCell _ _ _ _ hgw).trans ((Below.heap_setCell _ _ _ _ hgw).trans (Below.heap_setCell _ _ _ _ hgw))
 clear hK K
 try simp only [Act.put, List.setIfInBounds_toArray, List.set_cons_zero, List.set_cons_succ]
 repeat (first | (refine sreadxB rfl rfl ?_; apply Exists.intro; apply And.intro; (· (intro W hW; go_simp; try (first | with_reducible rfl | (rw [if_neg (by omega)]; try with_reducible rfl)))); simp only [Act.put, List.setIfInBounds_toArray, List.set_cons_zero, List.set_cons_succ]) | (refine bskip rfl rfl ?_; simp only [Act.put, List.setIfInBounds_toArray, List.set_cons_zero, List.set_cons_succ]))
 refine bdone ?_
 have X3 := heap_set (i := 7) (heap_set (i := 6) (heap_set (i := 5) X2 (.int .i64 (i : Int))) (.int .i64 (lineOf s i : Int))) (.int .i64 ((i : Int) - (startOf s i : Int) + 1))
 have B3 : Below w.heap.size w (((w2.setCell ⟨w.heap.size, 5, none⟩ (.int .i64 (i : Int))).setCell ⟨w.heap.size, 6, none⟩ (.int .i64 (lineOf s i : Int))).setCell ⟨w.heap.size, 7, none⟩ (.int .i64 ((i : Int) - (startOf s i : Int) + 1))) := by
  have := bthen B0 BW2
  exact ((this.setCell (p := ⟨w.heap.size, 5, none⟩) (Nat.le_refl _) _).setCell (p := ⟨w.heap.size, 6, none⟩) (Nat.le_refl _) _).setCell (p := ⟨w.heap.size, 7, none⟩) (Nat.le_refl _) _
 generalize (((w2.setCell ⟨w.heap.size, 5, none⟩ (.int .i64 (i : Int))).setCell ⟨w.heap.size, 6, none⟩ (.int .i64 (lineOf s i : Int))).setCell ⟨w.heap.size, 7, none⟩ (.int .i64 ((i : Int) - (startOf s i : Int) + 1))) = W3 at *
 clear c5 c6 c7 f5 f6 f7 X2 L2 G2 BW2 B0 L0 HX0 hgW hbW
 obtain ⟨cl, hcl⟩ : ∃ cl : Int, (i : Int) - (startOf s i : Int) + 1 = cl := ⟨_, rfl⟩
 obtain ⟨ln, hln⟩ : ∃ ln : Int, (lineOf s i : Int) = ln := ⟨_, rfl⟩
 rw [hcl, hln] at X3
 have X3' : W3.heap[w.heap.size]? = some (.cells #[.int .i64 0, .string ⟨#[]⟩, .int .i64 0, .int .i64 0, .string ⟨#[]⟩, .int .i64 (i : Int), .int .i64 ln, .int .i64 cl] 101 (0, 0)) := X3
 clear X3
 have L3 := Lib.hid (HL.out.next B3)
 have HC := Lib.hid hcl
 have HLN := Lib.hid hln
 clear hle hse hcl hln
 go_wp2_with fail
 refine wp_region_sched [(0, true), (1, true), (2, true), (3, true), (4, true), (5, true), (6, true), (7, true), (8, true), (9, true), (10, true)] (by kernel_rfl) (by kernel_rfl) (fun _ _ d _ _ h => by cases d <;> exact h) ?_
 refine swith (fun W hW => (cells4 (L3.out.next ((Below.refl _ _).drew.trans (hW.out.mono (Nat.le_refl _)))).box)) (fun q => ?_)
 repeat (first | (refine sreadx rfl rfl ?_; apply Exists.intro; apply And.intro; (· (intro W hW; go_simp; try (first | with_reducible rfl | (rw [if_neg (by omega)]; try with_reducible rfl)))); simp only [Act.put, List.setIfInBounds_toArray, List.set_cons_zero, List.set_cons_succ]) | (refine sskip rfl rfl ?_; simp only [Act.put, List.setIfInBounds_toArray, List.set_cons_zero, List.set_cons_succ]))
 refine sdone ?_
 clear q
 have X4 := box_next X3' (Below.refl _ _).drew
 have L4 := Lib.hid (L3.out.next (Below.refl _ _).drew)
 have B4 := B3.drew
 clear X3' L3 B3
 generalize W3.drew = W4 at *
 go_wp2_with fail
 refine (lsmall_any c _).mono ?_; rintro e w5 ⟨rfl, rfl⟩
 cases hsm : smallC c
 ·go_wp2_with fail
  refine (ldigit_any c _).mono ?_; rintro e w5 ⟨rfl, rfl⟩
  cases hdg : digitC c
  ·by_cases h34 : c.toNat = 34
   ·have e1 : ((c.toNat : Int) == 34) = true := by simp; omega
    have ht : Hid (tokL (s.drop i) = quoL (s.drop i)) := Lib.hid (by rw [HD.out, tokL_cons, if_neg (by simp [hsm]), if_neg (by simp [hdg]), if_pos h34])
    have hq34 : (s[i]).toNat = 34 := by
     have := HD.out
     rw [List.drop_eq_getElem_cons hin] at this
     injection this with this _
     rw [this]; exact h34
    have HQ := Lib.hid (quoL_cases (s.drop i) (by simp; omega))
    clear hsm hdg h34
    obtain ⟨k0, k1, k2, k3, k4, k5, k6, k7⟩ := cells8 X4
    obtain ⟨z0, z1, z2, z3, z4, z5, z6, z7⟩ := frozen8 X4
    go_wp2_with fail
    have X5 := X4
    have B5 := B4
    have L5 := L4
    clear k0 k1 k2 k3 k4 k5 k6 k7 z0 z1 z2 z3 z4 z5 z6 z7
    replace X5 : (W4.setCell ⟨w.heap.size, 0, none⟩ (.int .i64 3)).heap[w.heap.size]? = some (.cells #[.int .i64 3, .string ⟨#[]⟩, .int .i64 0, .int .i64 0, .string ⟨#[]⟩, .int .i64 (i : Int), .int .i64 ln, .int .i64 cl] 101 (0, 0)) := heap_set (i := 0) X4 (.int .i64 3)
    replace B5 := B4.setCell (p := ⟨w.heap.size, 0, none⟩) (Nat.le_refl _) (.int .i64 3)
    replace L5 := Lib.hid (HL.out.next B5)
    clear X4 B4 L4
    generalize (W4.setCell ⟨w.heap.size, 0, none⟩ (.int .i64 3)) = W5 at *
    refine (lquoted_any g s i _ L5.out hin hq34).mono ?_; rintro e w6 ⟨rfl, b6⟩
    replace X5 := box_next X5 b6
    replace B5 := bthen B5 b6
    replace L5 := Lib.hid (L5.out.next b6)
    clear b6
    obtain ⟨k0, k1, k2, k3, k4, k5, k6, k7⟩ := cells8 X5
    obtain ⟨z0, z1, z2, z3, z4, z5, z6, z7⟩ := frozen8 X5
    rcases HQ.out with ⟨k, x, hq, hk⟩ | ⟨er, off, hq, her⟩
    ·have HT := Lib.hid (ht.out.trans hq)
     replace hk : i + k ≤ s.length := by rw [List.length_drop] at hk; omega
     rw [hq]
     unfold RetQ
     clear hq ht HQ
     simp only [if_true]
     go_wp2_with fail
     refine (ltext_any x _).mono ?_; rintro e w7 ⟨rfl, b7⟩
     replace X5 := box_next X5 b7
     replace B5 := bthen B5 b7
     replace L5 := Lib.hid (L5.out.next b7)
     clear b7 k0 k1 k2 k3 k4 k5 k6 k7 z0 z1 z2 z3 z4 z5 z6 z7
     obtain ⟨k0, k1, k2, k3, k4, k5, k6, k7⟩ := cells8 X5
     obtain ⟨z0, z1, z2, z3, z4, z5, z6, z7⟩ := frozen8 X5
     unfold vv
     go_wp2_with fail
     clear k0 k1 k2 k3 k4 k5 k6 k7 z0 z1 z2 z3 z4 z5 z6 z7
     replace X5 := heap_set (i := 4) (heap_set (i := 3) (heap_set (i := 2) X5 (.int .i64 3)) (.int .i64 0)) (.string ⟨x.toArray⟩)
     replace X5 : (((w7.setCell ⟨w.heap.size, 2, none⟩ (.int .i64 3)).setCell ⟨w.heap.size, 3, none⟩ (.int .i64 0)).setCell ⟨w.heap.size, 4, none⟩ (.string ⟨x.toArray⟩)).heap[w.heap.size]? = some (.cells #[.int .i64 3, .string ⟨#[]⟩, (.int .i64 3), (.int .i64 0), (.string ⟨x.toArray⟩), .int .i64 (i : Int), .int .i64 ln, .int .i64 cl] 101 (0, 0)) := X5
     replace B5 := ((B5.setCell (p := ⟨w.heap.size, 2, none⟩) (Nat.le_refl _) (.int .i64 3)).setCell (p := ⟨w.heap.size, 3, none⟩) (Nat.le_refl _) (.int .i64 0)).setCell (p := ⟨w.heap.size, 4, none⟩) (Nat.le_refl _) (.string ⟨x.toArray⟩)
     replace L5 := Lib.hid (HL.out.next B5)
     generalize (((w7.setCell ⟨w.heap.size, 2, none⟩ (.int .i64 3)).setCell ⟨w.heap.size, 3, none⟩ (.int .i64 0)).setCell ⟨w.heap.size, 4, none⟩ (.string ⟨x.toArray⟩)) = W5 at *
     have hT1 : w.heap.size < (W5).heap.size := (Array.getElem?_eq_some_iff.1 X5).1
     refine (pass_any g s i k (W5) L5.out hk).mono ?_; rintro e w6 ⟨rfl, l6, g6⟩
     have X6 := (g6.block w.heap.size hT1 (by simp; omega)).trans X5
     obtain ⟨k0, k1, k2, k3, k4, k5, k6, k7⟩ := cells8 X6
     obtain ⟨z0, z1, z2, z3, z4, z5, z6, z7⟩ := frozen8 X6
     have T6 : TkI w g s (i + k) w6 := ⟨l6, gb_trans (gb_below B5 _) g6⟩
     clear X5 L5 B5 g6 l6
     go_wp2_with fail
     refine bodyPost_ret (v := .tuple #[.agg (tkCells 3 ((s.drop i).take k) ⟨3, 0, x⟩ s i).toArray, .int .i64 0, .int .i64 0]) (by simp [results, Tryz.results42, go_sem, tkCells, k0, k1, k2, k3, k4, k5, k6, k7, HC.out, HLN.out]) rfl ?_
     rw [HT.out]
     refine ⟨rfl, ?_⟩
     repeat (first | (with_reducible assumption) | refine tki_set ?_ (Nat.le_refl _) hgl)
    ·have HT := Lib.hid (ht.out.trans hq)
     rw [hq]
     unfold RetQ
     have hne : er ≠ 0 := by omega
     have g1 : (er != 0) = true := by simpa using hne
     have g2 : (er == 0) = false := by simpa using hne
     obtain ⟨m, hm⟩ : ∃ m, ((i + off : Nat) : Int) = m := ⟨_, rfl⟩
     have HM := Lib.hid hm
     simp only [if_neg hne]
     rw [hm]
     clear hq ht HQ her hm
     have HNE := Lib.hid hne
     clear hne
     go_wp2_with fail
     refine bodyPost_ret (v := .tuple #[.agg (tkCells 3 [] zeroV s i).toArray, .int .i64 er, .int .i64 m]) (by simp [results, Tryz.results42, go_sem, tkCells, zeroV, k0, k1, k2, k3, k4, k5, k6, k7, HC.out, HLN.out]) rfl ?_
     rw [HT.out]
     refine ⟨?_, ?_⟩
     ·unfold RetT
      rw [if_neg HNE.out, ← HM.out]
      rfl
     change TkI w g s i _
     have T5 := tki_below B5 HL.out
     repeat (first | (with_reducible assumption) | refine tki_set ?_ (Nat.le_refl _) hgl)
   ·have e1 : ((c.toNat : Int) == 34) = false := by simp; omega
    have ht : Hid (tokL (s.drop i) = if signL (s.drop i) = 0 then ⟨10, 0, 4, 0, zeroV⟩ else ⟨0, 0, 4, signL (s.drop i), zeroV⟩) := Lib.hid (by rw [HD.out, tokL_cons, if_neg (by simp [hsm]), if_neg (by simp [hdg]), if_neg h34])
    have hk := sign_le (s.drop i) (by simp; omega)
    rw [List.length_drop] at hk
    clear hsm hdg h34
    go_wp2_with fail
    refine (sign_any g s i _ L4.out hin).mono ?_; rintro e w5 ⟨rfl, b5⟩
    obtain ⟨k, hkk⟩ : ∃ k, signL (s.drop i) = k := ⟨_, rfl⟩
    rw [hkk] at ht hk
    replace hk : i + k ≤ s.length := by omega
    rw [hkk]
    have X5 := box_next X4 b5
    have B5 := bthen B4 b5
    obtain ⟨k0, k1, k2, k3, k4, k5, k6, k7⟩ := cells8 X5
    obtain ⟨z0, z1, z2, z3, z4, z5, z6, z7⟩ := frozen8 X5
    clear X4 L4 B4 b5
    by_cases h0 : k = 0
    ·have HT := Lib.hid (ht.out.trans (if_pos h0))
     have g1 : ((k : Int) == 0) = true := by simp; omega
     clear h0
     go_wp2_with fail
     refine bodyPost_ret (v := .tuple #[.agg (tkCells 4 [] zeroV s i).toArray, .int .i64 10, .int .i64 (i : Int)]) (by simp [results, Tryz.results42, go_sem, tkCells, zeroV, k0, k1, k2, k3, k4, k5, k6, k7, HC.out, HLN.out]) rfl ?_
     rw [HT.out]
     refine ⟨rfl, ?_⟩
     change TkI w g s i _
     have T5 := tki_below B5 HL.out
     repeat (first | (with_reducible assumption) | refine tki_set ?_ (Nat.le_refl _) hgl)
    ·have HT := Lib.hid (ht.out.trans (if_neg h0))
     have g1 : ((k : Int) == 0) = false := by simp; omega
     clear h0
     go_wp2_with fail
     replace X5 := heap_set (i := 0) X5 (.int .i64 4)
     replace X5 : (w5.setCell ⟨w.heap.size, 0, none⟩ (.int .i64 4)).heap[w.heap.size]? = some (.cells #[.int .i64 4, .string ⟨#[]⟩, .int .i64 0, .int .i64 0, .string ⟨#[]⟩, .int .i64 (i : Int), .int .i64 ln, .int .i64 cl] 101 (0, 0)) := X5
     replace B5 := B5.setCell (p := ⟨w.heap.size, 0, none⟩) (Nat.le_refl _) (.int .i64 4)
     replace L5 := Lib.hid (HL.out.next B5)
     clear k0 k1 k2 k3 k4 k5 k6 k7 z0 z1 z2 z3 z4 z5 z6 z7
     generalize (w5.setCell ⟨w.heap.size, 0, none⟩ (.int .i64 4)) = W5 at *
     have hT1 : w.heap.size < (W5).heap.size := (Array.getElem?_eq_some_iff.1 X5).1
     refine (pass_any g s i k (W5) L5.out hk).mono ?_; rintro e w6 ⟨rfl, l6, g6⟩
     have X6 := (g6.block w.heap.size hT1 (by simp; omega)).trans X5
     obtain ⟨k0, k1, k2, k3, k4, k5, k6, k7⟩ := cells8 X6
     obtain ⟨z0, z1, z2, z3, z4, z5, z6, z7⟩ := frozen8 X6
     have T6 : TkI w g s (i + k) w6 := ⟨l6, gb_trans (gb_below B5 _) g6⟩
     clear X5 L5 B5 g6 l6
     go_wp2_with fail
     refine bodyPost_ret (v := .tuple #[.agg (tkCells 4 ((s.drop i).take k) zeroV s i).toArray, .int .i64 0, .int .i64 0]) (by simp [results, Tryz.results42, go_sem, tkCells, k0, k1, k2, k3, k4, k5, k6, k7, HC.out, HLN.out, zeroV]) rfl ?_
     rw [HT.out]
     refine ⟨rfl, ?_⟩
     repeat (first | (with_reducible assumption) | refine tki_set ?_ (Nat.le_refl _) hgl)
  ·have ht : Hid (tokL (s.drop i) = if numOk ((s.drop i).take (runLen digitC (s.drop i))) then ⟨0, 0, 2, runLen digitC (s.drop i), ⟨1, (numV ((s.drop i).take (runLen digitC (s.drop i))) : Nat), []⟩⟩ else ⟨11, 0, 2, 0, zeroV⟩) := Lib.hid (by rw [HD.out, tokL_cons, if_neg (by simp [hsm]), if_pos hdg])
   have hpos : 0 < runLen digitC (s.drop i) := by
    rw [HD.out]; unfold runLen; rw [if_pos hdg]; omega
   have hall := run_take digitC (s.drop i)
   clear hsm hdg
   go_wp2_with fail
   refine (run_digit g s i _ L4.out).mono ?_; rintro e w5 ⟨rfl, b5⟩
   have hk := drop_take_len digitC hi
   obtain ⟨k, hkk⟩ : ∃ k, runLen digitC (s.drop i) = k := ⟨_, rfl⟩
   rw [hkk] at ht hk hall hpos
   rw [hkk]
   obtain ⟨m, hm⟩ : ∃ m, m = i + k := ⟨_, rfl⟩
   have hwr : IntKind.i64.wrap ((i : Int) + (k : Int)) = (m : Int) := by rw [IntWalk.i64_in _ (by omega)]; omega
   have hcut := cut_at s i k m hm
   have hmi : m ≤ s.length := by omega
   have him : i ≤ m := by omega
   have hl1 : 0 < ((s.drop i).take k).length := by simp; omega
   have hl2 : ((s.drop i).take k).length ≤ 20000 := by simp; omega
   obtain ⟨l, hl⟩ : ∃ l, (s.drop i).take k = l := ⟨_, rfl⟩
   have HLL := Lib.hid hl
   have HM := Lib.hid hm
   have HALL : Hid (∀ j (h : j < l.length), digitC l[j] = true) := Lib.hid (by subst hl; exact hall)
   rw [hl] at ht hcut hl1 hl2
   clear hl hall hm
   have X5 := box_next X4 b5
   have L5 := Lib.hid (L4.out.next b5)
   have B5 := bthen B4 b5
   obtain ⟨⟨y0, y1⟩, y2, y3⟩ := cells4 L5.out.box
   obtain ⟨k0, k1, k2, k3, k4, k5, k6, k7⟩ := cells8 X5
   obtain ⟨z0, z1, z2, z3, z4, z5, z6, z7⟩ := frozen8 X5
   clear X4 L4 B4 b5
   go_wp2_with fail
   refine (lnum_any l _ hl1 HALL.out hl2).mono ?_; rintro e w6 ⟨rfl, v, rfl, hv⟩
   clear hcut y0 y1 y2 y3
   cases hok : numOk l
   ·have HT := Lib.hid (ht.out.trans (by rw [if_neg (by simp [hok])]))
    clear hok hv ht
    go_wp2_with fail
    refine bodyPost_ret (v := .tuple #[.agg (tkCells 2 [] zeroV s i).toArray, .int .i64 11, .int .i64 (i : Int)]) (by simp [results, Tryz.results42, go_sem, tkCells, zeroV, k0, k1, k2, k3, k4, k5, k6, k7, HC.out, HLN.out]) rfl ?_
    rw [HT.out]
    refine ⟨rfl, ?_⟩
    change TkI w g s i _
    have T5 := tki_below B5 HL.out
    repeat (first | (with_reducible assumption) | refine tki_set ?_ (Nat.le_refl _) hgl)
   ·have HT := Lib.hid (ht.out.trans (by rw [if_pos hok]))
    have HV := Lib.hid (hv hok)
    clear hok hv ht
    go_wp2_with fail
    replace X5 := heap_set (i := 0) X5 (.int .i64 2)
    replace X5 : (w5.setCell ⟨w.heap.size, 0, none⟩ (.int .i64 2)).heap[w.heap.size]? = some (.cells #[.int .i64 2, .string ⟨#[]⟩, .int .i64 0, .int .i64 0, .string ⟨#[]⟩, .int .i64 (i : Int), .int .i64 ln, .int .i64 cl] 101 (0, 0)) := X5
    replace B5 := B5.setCell (p := ⟨w.heap.size, 0, none⟩) (Nat.le_refl _) (.int .i64 2)
    replace L5 := Lib.hid (HL.out.next B5)
    clear k0 k1 k2 k3 k4 k5 k6 k7 z0 z1 z2 z3 z4 z5 z6 z7
    generalize (w5.setCell ⟨w.heap.size, 0, none⟩ (.int .i64 2)) = W5 at *
    refine (lint_any v _).mono ?_; rintro e w7 ⟨rfl, b7⟩
    replace X5 := box_next X5 b7
    replace B5 := bthen B5 b7
    replace L5 := Lib.hid (L5.out.next b7)
    clear b7
    obtain ⟨k0, k1, k2, k3, k4, k5, k6, k7⟩ := cells8 X5
    obtain ⟨z0, z1, z2, z3, z4, z5, z6, z7⟩ := frozen8 X5
    unfold vv
    go_wp2_with fail
    clear k0 k1 k2 k3 k4 k5 k6 k7 z0 z1 z2 z3 z4 z5 z6 z7
    replace X5 := heap_set (i := 4) (heap_set (i := 3) (heap_set (i := 2) X5 (.int .i64 1)) (.int .i64 v)) (.string ⟨#[]⟩)
    replace X5 : (((w7.setCell ⟨w.heap.size, 2, none⟩ (.int .i64 1)).setCell ⟨w.heap.size, 3, none⟩ (.int .i64 v)).setCell ⟨w.heap.size, 4, none⟩ (.string ⟨#[]⟩)).heap[w.heap.size]? = some (.cells #[.int .i64 2, .string ⟨#[]⟩, (.int .i64 1), (.int .i64 v), (.string ⟨#[]⟩), .int .i64 (i : Int), .int .i64 ln, .int .i64 cl] 101 (0, 0)) := X5
    replace B5 := ((B5.setCell (p := ⟨w.heap.size, 2, none⟩) (Nat.le_refl _) (.int .i64 1)).setCell (p := ⟨w.heap.size, 3, none⟩) (Nat.le_refl _) (.int .i64 v)).setCell (p := ⟨w.heap.size, 4, none⟩) (Nat.le_refl _) (.string ⟨#[]⟩)
    replace L5 := Lib.hid (HL.out.next B5)
    generalize (((w7.setCell ⟨w.heap.size, 2, none⟩ (.int .i64 1)).setCell ⟨w.heap.size, 3, none⟩ (.int .i64 v)).setCell ⟨w.heap.size, 4, none⟩ (.string ⟨#[]⟩)) = W5 at *
    rw [← HV.out] at HT
    have hT1 : w.heap.size < (W5).heap.size := (Array.getElem?_eq_some_iff.1 X5).1
    refine (pass_any g s i k (W5) L5.out hk).mono ?_; rintro e w6 ⟨rfl, l6, g6⟩
    have X6 := (g6.block w.heap.size hT1 (by simp; omega)).trans X5
    obtain ⟨k0, k1, k2, k3, k4, k5, k6, k7⟩ := cells8 X6
    obtain ⟨z0, z1, z2, z3, z4, z5, z6, z7⟩ := frozen8 X6
    have T6 : TkI w g s (i + k) w6 := ⟨l6, gb_trans (gb_below B5 _) g6⟩
    clear X5 L5 B5 g6 l6
    go_wp2_with fail
    refine bodyPost_ret (v := .tuple #[.agg (tkCells 2 ((s.drop i).take k) ⟨1, v, []⟩ s i).toArray, .int .i64 0, .int .i64 0]) (by simp [results, Tryz.results42, go_sem, tkCells, k0, k1, k2, k3, k4, k5, k6, k7, HC.out, HLN.out]) rfl ?_
    rw [HT.out]
    refine ⟨rfl, ?_⟩
    repeat (first | (with_reducible assumption) | refine tki_set ?_ (Nat.le_refl _) hgl)
 ·have ht : Hid (tokL (s.drop i) = if runLen wordC (s.drop i) > 16 then ⟨2, 0, 1, 0, zeroV⟩ else ⟨0, 0, 1, runLen wordC (s.drop i), zeroV⟩) := Lib.hid (by rw [HD.out, tokL_cons, if_pos hsm])
  clear hsm
  go_wp2_with fail
  refine (run_word g s i _ L4.out).mono ?_; rintro e w5 ⟨rfl, b5⟩
  have hk := drop_take_len wordC hi
  obtain ⟨k, hkk⟩ : ∃ k, runLen wordC (s.drop i) = k := ⟨_, rfl⟩
  rw [hkk] at ht hk
  rw [hkk]
  have X5 := box_next X4 b5
  have L5 := Lib.hid (L4.out.next b5)
  have B5 := bthen B4 b5
  obtain ⟨k0, k1, k2, k3, k4, k5, k6, k7⟩ := cells8 X5
  obtain ⟨z0, z1, z2, z3, z4, z5, z6, z7⟩ := frozen8 X5
  clear X4 L4 B4 b5
  by_cases hbig : k > 16
  ·have HT := Lib.hid (ht.out.trans (if_pos hbig))
   have g1 : decide ((k : Int) > 16) = true := by simp; omega
   have g1' : decide (16 < (k : Int)) = true := by simp; omega
   clear hbig
   go_wp2_with fail
   refine bodyPost_ret (v := .tuple #[.agg (tkCells 1 [] zeroV s i).toArray, .int .i64 2, .int .i64 (i : Int)]) (by simp [results, Tryz.results42, go_sem, tkCells, zeroV, k0, k1, k2, k3, k4, k5, k6, k7, HC.out, HLN.out]) rfl ?_
   rw [HT.out]
   refine ⟨rfl, ?_⟩
   change TkI w g s i _
   have T5 := tki_below B5 HL.out
   repeat (first | (with_reducible assumption) | refine tki_set ?_ (Nat.le_refl _) hgl)
  ·have HT := Lib.hid (ht.out.trans (if_neg hbig))
   have g1 : decide ((k : Int) > 16) = false := by simp; omega
   have g1' : decide (16 < (k : Int)) = false := by simp; omega
   clear hbig
   go_wp2_with fail
   replace X5 := heap_set (i := 0) X5 (.int .i64 1)
   replace X5 : (w5.setCell ⟨w.heap.size, 0, none⟩ (.int .i64 1)).heap[w.heap.size]? = some (.cells #[.int .i64 1, .string ⟨#[]⟩, .int .i64 0, .int .i64 0, .string ⟨#[]⟩, .int .i64 (i : Int), .int .i64 ln, .int .i64 cl] 101 (0, 0)) := X5
   replace B5 := B5.setCell (p := ⟨w.heap.size, 0, none⟩) (Nat.le_refl _) (.int .i64 1)
   replace L5 := Lib.hid (HL.out.next B5)
   clear k0 k1 k2 k3 k4 k5 k6 k7 z0 z1 z2 z3 z4 z5 z6 z7
   generalize (w5.setCell ⟨w.heap.size, 0, none⟩ (.int .i64 1)) = W5 at *
   have hT1 : w.heap.size < (W5).heap.size := (Array.getElem?_eq_some_iff.1 X5).1
   refine (pass_any g s i k (W5) L5.out hk).mono ?_; rintro e w6 ⟨rfl, l6, g6⟩
   have X6 := (g6.block w.heap.size hT1 (by simp; omega)).trans X5
   obtain ⟨k0, k1, k2, k3, k4, k5, k6, k7⟩ := cells8 X6
   obtain ⟨z0, z1, z2, z3, z4, z5, z6, z7⟩ := frozen8 X6
   have T6 : TkI w g s (i + k) w6 := ⟨l6, gb_trans (gb_below B5 _) g6⟩
   clear X5 L5 B5 g6 l6
   go_wp2_with fail
   refine bodyPost_ret (v := .tuple #[.agg (tkCells 1 ((s.drop i).take k) zeroV s i).toArray, .int .i64 0, .int .i64 0]) (by simp [results, Tryz.results42, go_sem, tkCells, k0, k1, k2, k3, k4, k5, k6, k7, HC.out, HLN.out, zeroV]) rfl ?_
   rw [HT.out]
   refine ⟨rfl, ?_⟩
   repeat (first | (with_reducible assumption) | refine tki_set ?_ (Nat.le_refl _) hgl)
end Go.Proofs.YtnbmpfdffoidaaaGreatDoor.X
