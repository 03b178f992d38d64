/- The contract of the reference's Head. -/
import Derived.Test.YtpodniljpinigaaDoorCodeHead
import Derived.Test.YtpodniljpinigaaDoorCodeRef4
namespace Go.Proofs.YtpodniljpinigaaDoor.C
open Go.RowKit O V

def pad3 (l : List Int) : Array Value := #[.int .i64 (l.getD 0 0), .int .i64 (l.getD 1 0), .int .i64 (l.getD 2 0)]
theorem pad3_step (l : List Int) (m : Int) (h : l.length < 3) : pad3 (l ++ [m]) = (pad3 l).setIfInBounds l.length (.int .i64 m) := by
  match l, h with
  | [], _ => rfl
  | [_], _ => rfl
  | [_, _], _ => rfl
theorem three {l : List Int} (h : l.length = 3) : ∃ a b d, l = [a, b, d] := by
  match l, h with
  | [a, b, d], _ => exact ⟨a, b, d, rfl⟩
/-- The boxes of the reference's Head: the result's and c's, at b and b + 1. -/
structure HB (w : World) (b : Nat) (v : List Value) (W : World) : Prop where
  z : W.heap[w.heap.size]? = some (.cells #[.slice none 0 0, .int .i64 0, .int .i64 0, .int .i64 0] 24 (0, 0))
  c : W.heap[b]? = some (.cells v.toArray 24 (0, 0))
  k : Below w.heap.size w W
  lt : w.heap.size < b
theorem HB.next {w : World} {b : Nat} {v : List Value} {W W' : World} (h : HB w b v W) (k : Below W.heap.size W W') : HB w b v W' := ⟨box_next h.z k, box_next h.c k, bthen h.k k, h.lt⟩
theorem HB.other {w : World} {b g i : Nat} {v : List Value} {W : World} (h : HB w b v W) (u : Value) (hg : b < g) : HB w b v (W.setCell ⟨g, i, none⟩ u) :=
  ⟨(Below.heap_setCell _ _ _ _ (show w.heap.size ≠ g by have := h.lt; omega)).trans h.z, (Below.heap_setCell _ _ _ _ (show b ≠ g by omega)).trans h.c, h.k.setCell (show w.heap.size ≤ g by have := h.lt; omega) u, h.lt⟩
abbrev zc : List Value := [.slice none 0 0, .int .i64 0, .int .i64 0, .int .i64 0]
set_option maxHeartbeats 4000000 in
set_option maxRecDepth 100000 in
theorem rhead_any (s : List UInt8) (w : World) (hs : s.length ≤ 1500) : Calls Tryd.prog 33 #[.string ⟨s.toArray⟩] w fun e w' => RetH (headR s) e ∧ Below w.heap.size w w' := by
  have hsz : (ByteArray.mk s.toArray).size = s.length := by simp [ByteArray.size]
  have hZ : HB w (w.heap.size + 1) zc ((w.alloc (.cells zc.toArray 24)).alloc (.cells zc.toArray 24)) :=
    ⟨alloc_old' (alloc_at rfl), alloc_at (by simp), ((Below.refl _ _).alloc (Nat.le_refl _) _).alloc (by simp) _, by omega⟩
  go_enter Tryd.func33, Tryd.ntmps33
  go_wp2_with fail
  have hs2 : ((w.alloc (.cells zc.toArray 24)).alloc (.cells zc.toArray 24)).heap.size = w.heap.size + 1 + 1 := by simp
  generalize ((w.alloc (.cells zc.toArray 24)).alloc (.cells zc.toArray 24)) = W2 at *
  have hA3 := heap_alloc_new W2 (.cells #[.int .i64 0, .int .i64 0, .int .i64 0] 74)
  have hZ3 := hZ.next ((Below.refl _ _).alloc (Nat.le_refl _) (.cells #[.int .i64 0, .int .i64 0, .int .i64 0] 74))
  rw [hs2] at hA3
  have hg2 : w.heap.size + 1 < w.heap.size + 1 + 1 := by omega
  generalize (W2.alloc (.cells #[.int .i64 0, .int .i64 0, .int .i64 0] 74)) = W3 at *
  refine (word_any s 0 _ (by omega) (by omega)).mono ?_; rintro e w2 ⟨rfl, rfl⟩
  rw [List.drop_zero]
  by_cases hP : cutW s = codeW
  · rw [hP]
    have hd0 : s.drop 5 = cutR s := by
      have := drop_cut s 0
      rw [List.drop_zero, hP] at this
      exact this
    have hH0 : headR s = match wordsH 3 (cutR s) with
        | some ([a, b, d], _) => if headL a b d = s then some (a, b, d) else none
        | _ => none := by unfold headR; rw [if_pos hP]; rfl
    have HH0 := Lib.hid hH0
    have HA3 : Hid (W3.heap[w.heap.size + 1 + 1]? = some (.cells (pad3 []) 74 (0, 0))) := Lib.hid hA3
    have HZ3 := Lib.hid hZ3
    clear hH0 hP hA3 hZ3 hZ
    unfold codeW
    go_wp2_with fail
    go_loopw [3, 6, 15] (fun _ av iv wr => ∃ (q a : Nat) (ns : List Int), q ≤ 3 ∧ iv = .int .i64 (q : Int) ∧ av = .int .i64 (a : Int) ∧ a ≤ 5 + 1501 * q ∧ ns.length = q ∧ Hid (wordsH 3 (cutR s) = (wordsH (3 - q) (s.drop a)).map (fun p => (ns ++ p.1, p.2))) ∧ Hid (wr.heap[w.heap.size + 1 + 1]? = some (.cells (pad3 ns) 74 (0, 0))) ∧ Hid (HB w (w.heap.size + 1) zc wr)) (fun _ _ iv _ => 3 - (intOf iv).toNat)
    case atStart => exact ⟨0, 5, [], by omega, rfl, rfl, by omega, rfl, Lib.hid (by rw [hd0, Nat.sub_zero]; cases wordsH 3 (cutR s) <;> rfl), HA3, HZ3⟩
    case round =>
      obtain ⟨q, a, ns, hq, rfl, rfl, ha, hnsl, HWQ, HA, HI⟩ := hrel
      clear HA3 HZ3
      by_cases hlt2 : q < 3
      · have hqF : decide ((q : Int) < 3) = true := by simp; omega
        go_wp2_with fail
        refine (word_any s a _ (by omega) (by omega)).mono ?_; rintro e w2 ⟨rfl, rfl⟩
        obtain ⟨cw, hcw⟩ : ∃ x, cutW (s.drop a) = x := ⟨_, rfl⟩
        have hcwl : cw.length ≤ 1500 := by rw [← hcw]; have := cutW_len (s.drop a); rw [List.length_drop] at this; omega
        rw [hcw]
        have HCW := Lib.hid hcw
        clear hcw
        go_wp2_with fail
        refine (rparse_any cw _ (by omega)).mono ?_; rintro e w3 ⟨u, rfl, hu, b3⟩
        obtain ⟨k, hk⟩ : ∃ k, 3 - q = k + 1 := ⟨3 - q - 1, by omega⟩
        have hst : wordsH (3 - q) (s.drop a) = (match parseV cw with | none => none | some v => if v.k = 1 ∧ inB v.n then (match wordsH k (cutR (s.drop a)) with | none => none | some p => some (v.n :: p.1, p.2)) else none) := by rw [hk, ← HCW.out]; rfl
        have hZ5 := (HI.out.next b3).next ((Below.refl w3.heap.size w3).alloc (Nat.le_refl _) (.cells #[.int .i64 u.k, .int .i64 u.n, .string ⟨u.s.toArray⟩] 27))
        have HZ5 := Lib.hid hZ5
        have hrn : wordsH 3 (cutR s) = none → headR s = none := fun h => by rw [HH0.out, h]
        rw [← parse_same] at hu ⊢
        cases hpv : parseV cw with
        | none =>
          have HN0 := Lib.hid (hrn (by rw [HWQ.out, hst, hpv]; rfl))
          clear hu hst hpv hrn hZ5
          unfold vv
          simp only [Option.isSome]
          obtain ⟨z0, z1, z2, z3⟩ := cells4d HZ5.out.z
          obtain ⟨y0, y1, y2, y3⟩ := frozen4d HZ5.out.z
          obtain ⟨c0, c1, c2, c3⟩ := cells4d HZ5.out.c
          go_wp2_with fail
          refine bodyPost_ret (v := .tuple #[cdV none 0 0 0 0 0, .bool false]) (by simp [results, Tryd.results33, go_sem, cdV, z0, z1, z2, z3]) rfl ?_
          refine ⟨⟨0, 0, 0, false, rfl, by rw [HN0.out, if_neg (by decide)]⟩, ?_⟩
          have := HZ5.out.k
          repeat (first | (with_reducible exact Below.refl _ _) | (with_reducible assumption) | refine Below.setCell ?_ (by simp <;> omega) _ | refine Below.alloc ?_ (by simp <;> omega) _ | refine Below.drew ?_)
        | some v =>
          obtain rfl := hu v hpv
          have hX5 := heap_alloc_new w3 (.cells #[.int .i64 u.k, .int .i64 u.n, .string ⟨u.s.toArray⟩] 27)
          have t0 : (w3.alloc (.cells #[.int .i64 u.k, .int .i64 u.n, .string ⟨u.s.toArray⟩] 27)).cell? ⟨w3.heap.size, 0, none⟩ = some (.int .i64 u.k) := by rw [Lib.cell_of_heap hX5]; rfl
          have t1 : (w3.alloc (.cells #[.int .i64 u.k, .int .i64 u.n, .string ⟨u.s.toArray⟩] 27)).cell? ⟨w3.heap.size, 1, none⟩ = some (.int .i64 u.n) := by rw [Lib.cell_of_heap hX5]; rfl
          by_cases hk1 : u.k = 1
          · have g1 : (u.k != 1) = false := by simpa using hk1
            by_cases hn0 : u.n < 0
            · have g2 : decide (u.n < 0) = true := by simpa using hn0
              have HN0 := Lib.hid (hrn (by rw [HWQ.out, hst, hpv]; simp only; rw [if_neg (fun h => by have := h.2.1; omega)]; rfl))
              clear hu hst hpv hrn hZ5 hk1 hX5 hn0
              unfold vv
              simp only [Option.isSome]
              obtain ⟨z0, z1, z2, z3⟩ := cells4d HZ5.out.z
              obtain ⟨y0, y1, y2, y3⟩ := frozen4d HZ5.out.z
              obtain ⟨c0, c1, c2, c3⟩ := cells4d HZ5.out.c
              go_wp2_with fail
              refine bodyPost_ret (v := .tuple #[cdV none 0 0 0 0 0, .bool false]) (by simp [results, Tryd.results33, go_sem, cdV, z0, z1, z2, z3]) rfl ?_
              refine ⟨⟨0, 0, 0, false, rfl, by rw [HN0.out, if_neg (by decide)]⟩, ?_⟩
              have := HZ5.out.k
              repeat (first | (with_reducible exact Below.refl _ _) | (with_reducible assumption) | refine Below.setCell ?_ (by simp <;> omega) _ | refine Below.alloc ?_ (by simp <;> omega) _ | refine Below.drew ?_)
            · have g2 : decide (u.n < 0) = false := by simpa using hn0
              by_cases hn1 : u.n > 1000000
              · have g3 : decide (u.n > 1000000) = true := by simpa using hn1
                have HN0 := Lib.hid (hrn (by rw [HWQ.out, hst, hpv]; simp only; rw [if_neg (fun h => by have := h.2.2; omega)]; rfl))
                clear hu hst hpv hrn hZ5 hk1 hX5 hn0 hn1
                unfold vv
                simp only [Option.isSome]
                obtain ⟨z0, z1, z2, z3⟩ := cells4d HZ5.out.z
                obtain ⟨y0, y1, y2, y3⟩ := frozen4d HZ5.out.z
                obtain ⟨c0, c1, c2, c3⟩ := cells4d HZ5.out.c
                go_wp2_with fail
                refine bodyPost_ret (v := .tuple #[cdV none 0 0 0 0 0, .bool false]) (by simp [results, Tryd.results33, go_sem, cdV, z0, z1, z2, z3]) rfl ?_
                refine ⟨⟨0, 0, 0, false, rfl, by rw [HN0.out, if_neg (by decide)]⟩, ?_⟩
                have := HZ5.out.k
                repeat (first | (with_reducible exact Below.refl _ _) | (with_reducible assumption) | refine Below.setCell ?_ (by simp <;> omega) _ | refine Below.alloc ?_ (by simp <;> omega) _ | refine Below.drew ?_)
              · have g3 : decide (u.n > 1000000) = false := by simpa using hn1
                have hA5 := box_next (box_next HA.out b3) ((Below.refl w3.heap.size w3).alloc (Nat.le_refl _) (.cells #[.int .i64 u.k, .int .i64 u.n, .string ⟨u.s.toArray⟩] 27))
                obtain ⟨cv, hcv⟩ : ∃ cv, (w3.alloc (.cells #[.int .i64 u.k, .int .i64 u.n, .string ⟨u.s.toArray⟩] 27)).cell? ⟨w.heap.size + 1 + 1, q, none⟩ = some cv := by
                  rw [Lib.cell_of_heap hA5]
                  exact ⟨_, Array.getElem?_eq_getElem (show q < 3 by omega)⟩
                have hfz := Lib.frozen_of_heap hA5 q
                have HA5 := Lib.hid hA5
                have hdc := drop_cut s a
                rw [HCW.out] at hdc
                have HWQ2 : Hid (wordsH 3 (cutR s) = (wordsH (3 - (q + 1)) (s.drop (a + (cw.length + 1)))).map (fun p => ((ns ++ [u.n]) ++ p.1, p.2))) := Lib.hid (by
                  rw [HWQ.out, hst, hpv, show 3 - (q + 1) = k by omega, hdc]
                  simp only
                  rw [if_pos ⟨hk1, by unfold inB; omega⟩]
                  cases wordsH k (cutR (s.drop a)) with
                  | none => rfl
                  | some p => simp)
                have hstp := Lib.hid (pad3_step ns u.n (by omega))
                have hcsz : (ByteArray.mk cw.toArray).size = cw.length := by simp [ByteArray.size]
                have hqi : (q : Int) < 3 := by omega
                have hqn : q < 3 := by omega
                clear hu hst hpv hrn hZ5 hk1 hX5 hdc hk hA5 hn0 hn1
                unfold vv
                simp only [Option.isSome]
                go_wp2_with fail
                go_roundw
                case rel =>
                  refine ⟨q + 1, a + (cw.length + 1), ns ++ [u.n], by omega, by go_num, congrArg (Value.int .i64) (by omega), by omega, by simp; omega, HWQ2, Lib.hid ?_, Lib.hid (HZ5.out.other _ hg2)⟩
                  rw [heap_setC HA5.out, hstp.out, hnsl]
                case measure => simp [intOf]; omega
          · have g1 : (u.k != 1) = true := by simpa using hk1
            have HN0 := Lib.hid (hrn (by rw [HWQ.out, hst, hpv]; simp only; rw [if_neg (fun h => hk1 h.1)]; rfl))
            clear hu hst hpv hrn hZ5 hk1 hX5
            unfold vv
            simp only [Option.isSome]
            obtain ⟨z0, z1, z2, z3⟩ := cells4d HZ5.out.z
            obtain ⟨y0, y1, y2, y3⟩ := frozen4d HZ5.out.z
            obtain ⟨c0, c1, c2, c3⟩ := cells4d HZ5.out.c
            go_wp2_with fail
            refine bodyPost_ret (v := .tuple #[cdV none 0 0 0 0 0, .bool false]) (by simp [results, Tryd.results33, go_sem, cdV, z0, z1, z2, z3]) rfl ?_
            refine ⟨⟨0, 0, 0, false, rfl, by rw [HN0.out, if_neg (by decide)]⟩, ?_⟩
            have := HZ5.out.k
            repeat (first | (with_reducible exact Below.refl _ _) | (with_reducible assumption) | refine Below.setCell ?_ (by simp <;> omega) _ | refine Below.alloc ?_ (by simp <;> omega) _ | refine Below.drew ?_)
      · obtain rfl : q = 3 := by omega
        have hWF : wordsH 3 (cutR s) = some (ns, s.drop a) := by
          rw [HWQ.out, Nat.sub_self]; simp [wordsH]
        obtain ⟨na, nb, nd, rfl⟩ := three hnsl
        have hfour : headR s = if headL na nb nd = s then some (na, nb, nd) else none := by rw [HH0.out, hWF]
        have hin := wordsH_in _ _ _ hWF
        have fa := (hin na (by simp)).fit
        have fb := (hin nb (by simp)).fit
        have fd := (hin nd (by simp)).fit
        have HFOUR := Lib.hid hfour
        clear hWF hfour hin HWQ HH0 hd0
        have HA' : wr.heap[w.heap.size + 1 + 1]? = some (.cells #[.int .i64 na, .int .i64 nb, .int .i64 nd] 74 (0, 0)) := HA.out
        have a0 : wr.cell? ⟨w.heap.size + 1 + 1, 0, none⟩ = some (.int .i64 na) := by rw [Lib.cell_of_heap HA']; rfl
        have a1 : wr.cell? ⟨w.heap.size + 1 + 1, 1, none⟩ = some (.int .i64 nb) := by rw [Lib.cell_of_heap HA']; rfl
        have a2 : wr.cell? ⟨w.heap.size + 1 + 1, 2, none⟩ = some (.int .i64 nd) := by rw [Lib.cell_of_heap HA']; rfl
        obtain ⟨z0, z1, z2, z3⟩ := cells4d HI.out.z
        obtain ⟨y0, y1, y2, y3⟩ := frozen4d HI.out.z
        obtain ⟨c0, c1, c2, c3⟩ := cells4d HI.out.c
        obtain ⟨d0, d1, d2, d3⟩ := frozen4d HI.out.c
        have hqF : decide ((3 : Int) < 3) = false := by decide
        go_wp2_with fail
        have hC8 := heap_setC (i := 3) (heap_setC (i := 2) (heap_setC (i := 1) HI.out.c (.int .i64 na)) (.int .i64 nb)) (.int .i64 nd)
        have hZ8 : (((wr.setCell ⟨w.heap.size + 1, 1, none⟩ (.int .i64 na)).setCell ⟨w.heap.size + 1, 2, none⟩ (.int .i64 nb)).setCell ⟨w.heap.size + 1, 3, none⟩ (.int .i64 nd)).heap[w.heap.size]? = some (.cells zc.toArray 24 (0, 0)) := by
          have hne : w.heap.size ≠ w.heap.size + 1 := by omega
          exact (Below.heap_setCell _ _ _ _ hne).trans ((Below.heap_setCell _ _ _ _ hne).trans ((Below.heap_setCell _ _ _ _ hne).trans HI.out.z))
        have hB8 : Below w.heap.size w (((wr.setCell ⟨w.heap.size + 1, 1, none⟩ (.int .i64 na)).setCell ⟨w.heap.size + 1, 2, none⟩ (.int .i64 nb)).setCell ⟨w.heap.size + 1, 3, none⟩ (.int .i64 nd)) := ((HI.out.k.setCell (show w.heap.size ≤ w.heap.size + 1 by omega) _).setCell (show w.heap.size ≤ w.heap.size + 1 by omega) _).setCell (show w.heap.size ≤ w.heap.size + 1 by omega) _
        have HZ8 : Hid (HB w (w.heap.size + 1) [.slice none 0 0, .int .i64 na, .int .i64 nb, .int .i64 nd] (((wr.setCell ⟨w.heap.size + 1, 1, none⟩ (.int .i64 na)).setCell ⟨w.heap.size + 1, 2, none⟩ (.int .i64 nb)).setCell ⟨w.heap.size + 1, 3, none⟩ (.int .i64 nd))) := Lib.hid ⟨hZ8, by simpa using hC8, hB8, by omega⟩
        clear hC8 hZ8 hB8 HI HA HA' a0 a1 a2 z0 z1 z2 z3 y0 y1 y2 y3 c0 c1 c2 c3 d0 d1 d2 d3
        generalize (((wr.setCell ⟨w.heap.size + 1, 1, none⟩ (.int .i64 na)).setCell ⟨w.heap.size + 1, 2, none⟩ (.int .i64 nb)).setCell ⟨w.heap.size + 1, 3, none⟩ (.int .i64 nd)) = W8 at *
        have hg8 : w.heap.size + 1 < W8.heap.size := (Array.getElem?_eq_some_iff.1 HZ8.out.c).1
        refine wp_region_schedB [w.heap.size + 1] [(0, true), (1, true), (3, true), (4, true), (2, false), (5, true), (6, false), (7, true)] (by kernel_rfl) (by kernel_rfl) (fun _ _ d _ _ h => by cases d <;> exact h) ?_
        refine bwith (fun W hW => (cells4d (hW.one HZ8.out.c))) (fun q => ?_)
        repeat (first | (refine sreadxB rfl rfl ?_; apply Exists.intro; apply And.intro; (· (intro W hW; first | (go_simp; done) | (go_simp; with_reducible rfl) | (go_simp; rw [if_neg (by omega)]; done) | (go_simp; rw [if_neg (by omega)]; with_reducible rfl))); simp only [Act.put, List.setIfInBounds_toArray, List.set_cons_zero, List.set_cons_succ]) | (refine bskip rfl rfl ?_; simp only [Act.put, List.setIfInBounds_toArray, List.set_cons_zero, List.set_cons_succ]))
        refine bcall rfl rfl (fun K hK => ?_)
        go_simp
        refine (rprintA_any none 0 0 na nb nd [] _ (IRow.nil _ _) (by omega) (by simp) fa fb fd).mono ?_; rintro e w9 ⟨rfl, b9⟩
        go_wp2_with fail
        refine hK.out _ _ (by exact KB.of_below b9 (fun k hk => by simp at hk; subst hk; exact hg8)) ?_
        clear hK K
        try simp only [Act.put, List.setIfInBounds_toArray, List.set_cons_zero, List.set_cons_succ]
        rw [printA_nil]
        have HZ9 := Lib.hid (HZ8.out.next ((Below.refl _ _).drew.trans b9))
        have hh := head_len fa fb fd
        clear b9 q HZ8
        obtain ⟨z0, z1, z2, z3⟩ := cells4d HZ9.out.z
        obtain ⟨y0, y1, y2, y3⟩ := frozen4d HZ9.out.z
        generalize headL na nb nd = pl at *
        have ec := cat10 s
        obtain ⟨F, hF⟩ : ∃ F, (pl ++ [10] == s ++ [10]) = F := ⟨_, rfl⟩
        have HFF : Hid (headR s = if F = true then some (na, nb, nd) else none) := Lib.hid (by
          rw [HFOUR.out, ← hF]
          by_cases h1 : pl = s
          · rw [if_pos h1, h1, if_pos (by simp)]
          · rw [if_neg h1, if_neg (by simpa using h1)])
        repeat (first | (refine sreadxB rfl rfl ?_; apply Exists.intro; apply And.intro; (· (intro W hW; first | (go_simp; done) | (go_simp; with_reducible rfl) | (go_simp; rw [if_neg (by omega)]; done) | (go_simp; rw [if_neg (by omega)]; with_reducible rfl))); simp only [Act.put, List.setIfInBounds_toArray, List.set_cons_zero, List.set_cons_succ]) | (refine bskip rfl rfl ?_; simp only [Act.put, List.setIfInBounds_toArray, List.set_cons_zero, List.set_cons_succ]))
        refine bcall rfl rfl (fun K hK => ?_)
        go_simp
        refine hK.out _ _ (fun k hk => ?_) ?_
        · simp at hk; subst hk
          have hne : w.heap.size + 1 ≠ w.heap.size := by omega
          exact (Below.heap_setCell _ _ _ _ hne).trans ((Below.heap_setCell _ _ _ _ hne).trans ((Below.heap_setCell _ _ _ _ hne).trans (Below.heap_setCell _ _ _ _ hne)))
        clear hK K
        try simp only [Act.put, List.setIfInBounds_toArray, List.set_cons_zero, List.set_cons_succ]
        repeat (first | (refine sreadxB rfl rfl ?_; apply Exists.intro; apply And.intro; (· (intro W hW; first | (go_simp; done) | (go_simp; with_reducible rfl) | (go_simp; rw [if_neg (by omega)]; done) | (go_simp; rw [if_neg (by omega)]; with_reducible rfl))); simp only [Act.put, List.setIfInBounds_toArray, List.set_cons_zero, List.set_cons_succ]) | (refine bskip rfl rfl ?_; simp only [Act.put, List.setIfInBounds_toArray, List.set_cons_zero, List.set_cons_succ]))
        refine bdone ?_
        go_wp2_with fail
        refine bodyPost_ret (v := .tuple #[cdV none 0 0 na nb nd, .bool F]) (by simp [results, Tryd.results33, go_sem, cdV, z0, z1, z2, z3]) rfl ?_
        refine ⟨⟨na, nb, nd, F, rfl, HFF.out⟩, ?_⟩
        have := HZ9.out.k
        repeat (first | (with_reducible exact Below.refl _ _) | (with_reducible assumption) | refine Below.setCell ?_ (by simp <;> omega) _ | refine Below.alloc ?_ (by simp <;> omega) _ | refine Below.drew ?_)
  · have d1 : (cutW s == [99, 111, 100, 101]) = false := by simpa [codeW] using hP
    have HN0 : Hid (headR s = none) := Lib.hid (by unfold headR; rw [if_neg hP])
    generalize cutW s = cw at *
    have HZ5 := Lib.hid hZ3
    clear hZ hZ3 hA3
    obtain ⟨z0, z1, z2, z3⟩ := cells4d HZ5.out.z
    obtain ⟨y0, y1, y2, y3⟩ := frozen4d HZ5.out.z
    obtain ⟨c0, c1, c2, c3⟩ := cells4d HZ5.out.c
    go_wp2_with fail
    refine bodyPost_ret (v := .tuple #[cdV none 0 0 0 0 0, .bool false]) (by simp [results, Tryd.results33, go_sem, cdV, z0, z1, z2, z3]) rfl ?_
    refine ⟨⟨0, 0, 0, false, rfl, by rw [HN0.out, if_neg (by decide)]⟩, ?_⟩
    have := HZ5.out.k
    repeat (first | (with_reducible exact Below.refl _ _) | (with_reducible assumption) | refine Below.setCell ?_ (by simp <;> omega) _ | refine Below.alloc ?_ (by simp <;> omega) _ | refine Below.drew ?_)
end Go.Proofs.YtpodniljpinigaaDoor.C
