/- The contract of the reference's ParseAll. -/
import Derived.Test.YtpodniljpinigaaDoorCodeAll
namespace Go.Proofs.YtpodniljpinigaaDoor.C
open Go.RowKit O V

theorem cur_drop {c : UInt8} {u cur : List UInt8} {done : List (List UInt8)} (h : cutL c u = (done, cur)) : cur.length ≤ u.length ∧ u.drop (u.length - cur.length) = cur := by
  have hg := glue_cutL c u
  rw [h] at hg
  obtain ⟨X, hX⟩ : ∃ X, X ++ cur = u := ⟨_, hg⟩
  subst hX
  refine ⟨by simp, ?_⟩
  rw [List.length_append, Nat.add_sub_cancel, List.drop_left' rfl]
/-- What is known of the lines that were read. -/
def Seen (done : List (List UInt8)) (r l k : Int) (xs : List Ins) (n : Nat) : Prop := (done = [] ∧ n = 0 ∧ r = 0 ∧ l = 0 ∧ k = 0 ∧ xs = []) ∨ ∃ l0 ls, done = l0 :: ls ∧ headM l0 = some (r, l, k) ∧ ls.map parseM = xs.map some ∧ n = ls.length
theorem parseA_badL {s u v x l0 : List UInt8} {ls : List (List UInt8)} {xs : List Ins} {r l k : Int} (hs : s = u ++ v) (hc : cutL 10 u = (l0 :: ls ++ [x], [])) (hm : headM l0 = some (r, l, k)) (hx : ls.map parseM = xs.map some) (hn : parseM x = none) : parseA s = (zC, ls.length + 2) := by
  have h := cutL_app (b := v) hc
  rw [← hs] at h
  have e : l0 :: ls ++ [x] ++ (cutL 10 v).1 = l0 :: (ls ++ (x :: (cutL 10 v).1)) := by simp
  rw [e] at h
  unfold parseA
  rw [h]
  simp only
  rw [hm]
  simp only
  rw [parseLs_app _ _ _ _ hx]
  simp only [parseLs, hn]
  rw [Nat.add_comm]
theorem parseA_badL0 {s u v l0 : List UInt8} (hs : s = u ++ v) (hc : cutL 10 u = ([l0], [])) (hm : headM l0 = none) : parseA s = (zC, 1) := by
  have h := cutL_app (b := v) hc
  rw [← hs] at h
  unfold parseA
  rw [h]
  simp only [List.cons_append]
  rw [hm]
theorem parseA_end {s cur : List UInt8} {done : List (List UInt8)} {r l k : Int} {xs : List Ins} {n : Nat} (hc : cutL 10 s = (done, cur)) (h : Seen done r l k xs n) : parseA s = if cur = [] ∧ done ≠ [] then (⟨r, l, k, xs⟩, 0) else (zC, done.length + 1) := by
  unfold parseA
  rw [hc]
  rcases h with ⟨rfl, _⟩ | ⟨l0, ls, rfl, hm, hx, _⟩
  · simp
  · simp only
    rw [hm]
    simp only
    have := parseLs_app [] ls xs 2 hx
    rw [List.append_nil] at this
    rw [this]
    simp only [parseLs, List.append_nil]
    by_cases h : cur = []
    · simp [h]
    · simp [h]
theorem AB.head {W0 W : World} (h : AB W0 none 0 0 0 0 0 [] W) (r l k : Int) : AB W0 none 0 0 r l k [] ((((W.setCell ⟨W0.heap.size, 0, none⟩ (.slice none 0 0)).setCell ⟨W0.heap.size, 1, none⟩ (.int .i64 r)).setCell ⟨W0.heap.size, 2, none⟩ (.int .i64 l)).setCell ⟨W0.heap.size, 3, none⟩ (.int .i64 k)) := by
  refine ⟨?_, World.ownsRow_nil _ _ _ _, (((h.be.setCell (Nat.le_refl _) _).setCell (Nat.le_refl _) _).setCell (Nat.le_refl _) _).setCell (Nat.le_refl _) _⟩
  have := heap_setC (i := 3) (heap_setC (i := 2) (heap_setC (i := 1) (heap_setC (i := 0) h.bx (.slice none 0 0)) (.int .i64 r)) (.int .i64 l)) (.int .i64 k)
  simpa using this
set_option maxHeartbeats 4000000 in
set_option maxRecDepth 100000 in
theorem rparseA_any (s : List UInt8) (w : World) (hs : s.length ≤ 1500) : Calls Tryd.prog 14 #[.string ⟨s.toArray⟩] w fun e w' => RetA s e w' ∧ Below w.heap.size w w' := by
  have hsz : (ByteArray.mk s.toArray).size = s.length := by simp [ByteArray.size]
  have hX1 := heap_alloc_new w (.cells zc.toArray 24)
  have hW1 : Below w.heap.size w (w.alloc (.cells zc.toArray 24)) := (Below.refl _ _).alloc (Nat.le_refl _) _
  have hS1 : (w.alloc (.cells zc.toArray 24)).heap.size = w.heap.size + 1 := by simp
  go_enter Tryd.func14, Tryd.ntmps14
  go_wp2_with fail
  generalize (w.alloc (.cells zc.toArray 24)) = W0 at *
  have hAB : AB W0 none 0 0 0 0 0 [] (W0.alloc (.cells zc.toArray 24)) := ⟨heap_alloc_new _ _, World.ownsRow_nil _ _ _ _, (Below.refl _ _).alloc (Nat.le_refl _) _⟩
  have HAB := Lib.hid hAB
  have HX1 := Lib.hid hX1
  have HW1 := Lib.hid hW1
  have hg0 : w.heap.size < W0.heap.size := by omega
  rw [← hS1]
  clear hAB hX1 hW1 hS1
  go_loopw [3, 5, 6, 7] (fun _ lv fv iv wr => ∃ (i D F : Nat) (done : List (List UInt8)) (cur : List UInt8) (A : Option Addr) (n c : Nat) (r l k : Int) (xs : List Ins), i ≤ s.length ∧ iv = .int .i64 (i : Int) ∧ lv = .int .i64 (D : Int) ∧ fv = .int .i64 (F : Int) ∧ Hid (done.length = D) ∧ Hid (F + cur.length = i) ∧ Hid (cutL 10 (s.take i) = (done, cur)) ∧ Hid (Seen done r l k xs n) ∧ Hid (D = 0 → A = none ∧ c = 0) ∧ Hid (AB W0 A n c r l k xs wr)) (fun _ _ _ iv _ => s.length - (intOf iv).toNat)
  case atStart => exact ⟨0, 0, 0, [], [], none, 0, 0, 0, 0, 0, [], by omega, rfl, rfl, rfl, Lib.hid rfl, Lib.hid rfl, Lib.hid rfl, Lib.hid (.inl ⟨rfl, rfl, rfl, rfl, rfl, rfl⟩), Lib.hid (fun _ => ⟨rfl, rfl⟩), HAB⟩
  case round =>
    obtain ⟨i, D, F, done, cur, A, n, c, r, l, k, xs, hi, rfl, rfl, rfl, HD, HF, HC, HS, HNA, HB⟩ := hrel
    clear HAB
    have hX4 := (HB.out.be.block _ hg0).trans HX1.out
    have HX4 := Lib.hid hX4
    have HW4 := Lib.hid (HW1.out.trans (HB.out.be.mono (Nat.le_of_lt hg0)))
    clear hX4
    have hDF : D ≤ 1501 ∧ F ≤ i := by
      have h1 := (cutL_len 10 (s.take i)).1
      rw [HC.out, HD.out] at h1
      have h2 := HF.out
      simp only [List.length_take] at h1
      omega
    obtain ⟨hD, hF⟩ := hDF
    by_cases hlt : i < s.length
    · have hki : (i : Int) < (s.length : Int) := by omega
      obtain ⟨b, hb⟩ : ∃ b, s[i] = b := ⟨_, rfl⟩
      have hx := ba_at s i hlt hb
      have htk : s.take (i + 1) = s.take i ++ [b] := by rw [List.take_succ_eq_append_getElem hlt, hb]
      have hsn := cutL_snoc (b := b) HC.out
      rw [← htk] at hsn
      clear htk hb
      by_cases hb10 : b = 10
      · subst hb10
        rw [if_pos rfl] at hsn
        have HSN := Lib.hid hsn
        have hF2 := HF.out
        have hcur := cur_drop HC.out
        rw [List.length_take, Nat.min_eq_left (Nat.le_of_lt hlt), show i - cur.length = F by omega, List.drop_take] at hcur
        have hcut := cut_at s F (i - F) i (by omega)
        rw [hcur.2] at hcut
        have hcl : cur.length ≤ 1500 := by omega
        have i1 : (F : Int) ≤ (i : Int) := by omega
        have i2 : (i : Int) ≤ (s.length : Int) := by omega
        have i4 : i ≤ s.length := by omega
        have e10 : (((10 : UInt8).toNat : Int) != 10) = false := rfl
        have HS1 : Hid (s = s.take (i + 1) ++ s.drop (i + 1)) := Lib.hid (List.take_append_drop _ _).symm
        clear hsn hF2 hcur
        by_cases hD0 : D = 0
        · subst hD0
          obtain ⟨rfl, rfl⟩ := HNA.out rfl
          have hd0 : done = [] := List.eq_nil_of_length_eq_zero HD.out
          subst hd0
          have hs0 : n = 0 ∧ r = 0 ∧ l = 0 ∧ k = 0 ∧ xs = [] := by
            rcases HS.out with ⟨_, h⟩ | ⟨_, _, h, _⟩
            · exact h
            · cases h
          obtain ⟨rfl, rfl, rfl, rfl, rfl⟩ := hs0
          go_wp2_with fail
          refine (rhead_any cur _ hcl).mono ?_; rintro e w3 ⟨⟨r, l, k, f, rfl, hh⟩, b3⟩
          rw [headR_eq] at hh
          have hB5 := (HB.out.next b3).next ((Below.refl w3.heap.size w3).alloc (Nat.le_refl _) (.cells #[.slice none 0 0, .int .i64 r, .int .i64 l, .int .i64 k] 24))
          have X4 := box_next (box_next HX4.out b3) ((Below.refl w3.heap.size w3).alloc (Nat.le_refl _) (.cells #[.slice none 0 0, .int .i64 r, .int .i64 l, .int .i64 k] 24))
          have W4 := bthen (bthen HW4.out b3) ((Below.refl w3.heap.size w3).alloc (Nat.le_refl _) (.cells #[.slice none 0 0, .int .i64 r, .int .i64 l, .int .i64 k] 24))
          have hh5 := heap_alloc_new w3 (.cells #[.slice none 0 0, .int .i64 r, .int .i64 l, .int .i64 k] 24)
          obtain ⟨i0, i1, i2, i3⟩ := cells4d hh5
          unfold cdV
          cases f with
          | false =>
            have HN : Hid (parseA s = (zC, 1)) := Lib.hid (parseA_badL0 HS1.out HSN.out hh)
            clear hh hB5
            obtain ⟨z0, z1, z2, z3⟩ := cells4d X4
            obtain ⟨y0, y1, y2, y3⟩ := frozen4d X4
            go_wp2_with fail
            refine bodyPost_ret (v := .tuple #[cdV none 0 0 0 0 0, .int .i64 (1 : Nat)]) (by simp [results, Tryd.results14, go_sem, cdV, z0, z1, z2, z3]) rfl ?_
            refine ⟨retA_none HN.out _, ?_⟩
            have := W4
            repeat (first | (with_reducible exact Below.refl _ _) | (with_reducible assumption) | refine Below.setCell ?_ (by simp <;> omega) _ | refine Below.alloc ?_ (by simp <;> omega) _ | refine Below.drew ?_)
          | true =>
            have HSE : Hid (Seen [cur] r l k [] 0) := Lib.hid (.inr ⟨cur, [], rfl, hh, rfl, rfl⟩)
            obtain ⟨x0, x1, x2, x3⟩ := cells4d hB5.bx
            obtain ⟨f0, f1, f2, f3⟩ := frozen4d hB5.bx
            have HB5 := Lib.hid hB5
            clear hh X4 W4 hB5
            go_wp2_with fail
            go_roundw
            case rel => exact ⟨i + 1, 1, i + 1, [cur], [], none, 0, 0, r, l, k, [], by omega, by go_num, by go_num, by go_num, Lib.hid rfl, Lib.hid (by simp), HSN, HSE, Lib.hid (by decide), Lib.hid (HB5.out.head r l k)⟩
            case measure => simp [intOf]; omega
        · have e1 : ((D : Int) + 1 == 1) = false := by simp; omega
          have hse : ∃ l0 ls, done = l0 :: ls ∧ headM l0 = some (r, l, k) ∧ ls.map parseM = xs.map some ∧ n = ls.length := by
            rcases HS.out with ⟨h, _⟩ | h
            · exact absurd (by rw [← HD.out, h]; rfl) hD0
            · exact h
          obtain ⟨l0, ls, rfl, hm, hx', hn⟩ := hse
          have hnD : D = n + 1 := by rw [← HD.out, hn]; rfl
          have HND := Lib.hid hnD
          have HNL := Lib.hid hn
          have HHM := Lib.hid hm
          have HHX := Lib.hid hx'
          have hnl : n ≤ 1501 := by omega
          clear hm hx' hn hnD
          go_wp2_with fail
          refine (rparse_c cur _ hcl).mono ?_; rintro e w5 ⟨⟨y, rfl, hy⟩, b5⟩
          rw [parseRf_eq] at hy ⊢
          cases hpm : parseM cur with
          | none =>
            have HN : Hid (parseA s = (zC, D + 1)) := Lib.hid (by
              have := parseA_badL HS1.out HSN.out HHM.out HHX.out hpm
              rw [this, HND.out, HNL.out])
            clear hpm hy
            have X4 := box_next (box_next HX4.out b5) ((Below.refl w5.heap.size w5).alloc (Nat.le_refl _) (.cells (insC y).toArray 29))
            have W4 : Below w.heap.size w (w5.alloc (.cells (insC y).toArray 29)) := bthen (bthen HW4.out b5) ((Below.refl w5.heap.size w5).alloc (Nat.le_refl _) _)
            unfold insV
            unfold insC at *
            simp only [Option.isSome]
            obtain ⟨z0, z1, z2, z3⟩ := cells4d X4
            obtain ⟨y0, y1, y2, y3⟩ := frozen4d X4
            go_wp2_with fail
            refine bodyPost_ret (v := .tuple #[cdV none 0 0 0 0 0, .int .i64 ((D + 1) : Nat)]) (by simp [results, Tryd.results14, go_sem, cdV, z0, z1, z2, z3]) rfl ?_
            refine ⟨retA_none HN.out _, ?_⟩
            have := W4
            repeat (first | (with_reducible exact Below.refl _ _) | (with_reducible assumption) | refine Below.setCell ?_ (by simp <;> omega) _ | refine Below.alloc ?_ (by simp <;> omega) _ | refine Below.drew ?_)
          | some z =>
            obtain rfl := hy z hpm
            have HM2 : Hid ((ls ++ [cur]).map parseM = (xs ++ [y]).map some) := Lib.hid (by rw [List.map_append, HHX.out, List.map_append, List.map_cons, List.map_nil, hpm]; rfl)
            clear hpm hy
            have hB6 := HB.out.next (b5.trans ((Below.refl w5.heap.size w5).alloc (Nat.le_refl _) (.cells (insC y).toArray 29) |>.mono b5.size))
            have hY : (w5.alloc (.cells (insC y).toArray 29)).heap[w5.heap.size]? = some (.cells (insC y).toArray 29 (0, 0)) := heap_alloc_new _ _
            unfold insV
            unfold insC at hB6 hY ⊢
            obtain ⟨i0, i1, i2, i3, i4, i5, i6, i7⟩ := cells8c hY
            have HB6 := Lib.hid hB6
            obtain ⟨x0, x1, x2, x3⟩ := cells4d HB6.out.bx
            clear hB6
            simp only [Option.isSome]
            go_wp2_with (at_builtin; refine wpList_app rfl (.tmp 52) (.tmp 54) insE rfl (W0.heap.size + 1) (xs.flatMap insC) rfl ((HB6.out.next ((Below.refl _ _).alloc (Nat.le_refl _) _)).ow) rfl (insC y) (Rd.made _ (insC y) rfl (by simp)) (InsD.one y _ rfl) (by unfold maxLen; omega) (by omega) (by have := HB6.out.lt; simp at this ⊢; omega) ?_; intro A3 c3 w7 o7 g7 _; have hb7 := ((HB6.out.next ((Below.refl _ _).alloc (Nat.le_refl _) _)).app g7).1; have c7 := (cells4d hb7).1; have f7 := (frozen4d hb7).1)
            go_roundw
            case rel => exact ⟨i + 1, D + 1, i + 1, l0 :: ls ++ [cur], [], A3, n + 1, c3, r, l, k, xs ++ [y], by omega, by go_num, by go_num, by go_num, Lib.hid (by have := HD.out; simp at this ⊢; omega), Lib.hid (by simp), HSN, Lib.hid (.inr ⟨l0, ls ++ [cur], rfl, HHM.out, HM2.out, by have := HNL.out; simp; omega⟩), Lib.hid (fun h => by omega), Lib.hid ((HB6.out.next ((Below.refl _ _).alloc (Nat.le_refl _) _)).put g7 (by rw [List.flatMap_append]; simpa using o7))⟩
            case measure => simp [intOf]; omega
      · have e10 : ((b.toNat : Int) != 10) = true := by
          simp; intro e; exact hb10 (UInt8.toNat_inj.1 (by simp; omega))
        rw [if_neg hb10] at hsn
        have HSN := Lib.hid hsn
        clear hsn hb10
        go_wp2_with fail
        go_roundw
        case rel => exact ⟨i + 1, D, F, done, cur ++ [b], A, n, c, r, l, k, xs, by omega, by go_num, rfl, rfl, HD, Lib.hid (by have := HF.out; simp; omega), HSN, HS, HNA, HB⟩
        case measure => simp [intOf]; omega
    · obtain rfl : i = s.length := by omega
      have hki : ¬ (s.length : Int) < (s.length : Int) := by omega
      have hC := HC.out
      rw [List.take_length] at hC
      have hend := parseA_end hC HS.out
      have hF2 := HF.out
      have X4 := HX4.out
      have W4 := HW4.out
      obtain ⟨z0, z1, z2, z3⟩ := cells4d X4
      obtain ⟨y0, y1, y2, y3⟩ := frozen4d X4
      have hDl := HD.out
      by_cases hcu : F < s.length
      · have HN : Hid (parseA s = (zC, D + 1)) := Lib.hid (by
          rw [hend, if_neg (fun h => by rw [h.1] at hF2; simp at hF2; omega), HD.out])
        have d1 : decide ((F : Int) < (s.length : Int)) = true := by simp; omega
        have d3 : ¬ s.length ≤ F := by omega
        clear hC hend hF2 hDl
        go_wp2_with fail
        refine bodyPost_ret (v := .tuple #[cdV none 0 0 0 0 0, .int .i64 ((D + 1) : Nat)]) (by simp [results, Tryd.results14, go_sem, cdV, z0, z1, z2, z3]) rfl ?_
        refine ⟨retA_none HN.out _, ?_⟩
        have := W4
        repeat (first | (with_reducible exact Below.refl _ _) | (with_reducible assumption) | refine Below.setCell ?_ (by simp <;> omega) _ | refine Below.alloc ?_ (by simp <;> omega) _ | refine Below.drew ?_)
      · have d1 : decide ((F : Int) < (s.length : Int)) = false := by simp; omega
        have hcur : cur = [] := List.eq_nil_of_length_eq_zero (by omega)
        by_cases hD0 : D = 0
        · have d2 : ((D : Int) == 0) = true := by simp; omega
          have hdn : done = [] := List.eq_nil_of_length_eq_zero (by omega)
          have HN : Hid (parseA s = (zC, D + 1)) := Lib.hid (by
            rw [hend, if_neg (fun h => h.2 hdn), HD.out])
          have d3 : s.length ≤ F := by omega
          clear hC hend hF2 hDl hdn hcur hD0
          go_wp2_with fail
          refine bodyPost_ret (v := .tuple #[cdV none 0 0 0 0 0, .int .i64 ((D + 1) : Nat)]) (by simp [results, Tryd.results14, go_sem, cdV, z0, z1, z2, z3]) rfl ?_
          refine ⟨retA_none HN.out _, ?_⟩
          have := W4
          repeat (first | (with_reducible exact Below.refl _ _) | (with_reducible assumption) | refine Below.setCell ?_ (by simp <;> omega) _ | refine Below.alloc ?_ (by simp <;> omega) _ | refine Below.drew ?_)
        · have d2 : ((D : Int) == 0) = false := by simp; omega
          have HPC : Hid (parseA s = (⟨r, l, k, xs⟩, 0)) := Lib.hid (by
            rw [hend, if_pos ⟨hcur, fun h => hD0 (by rw [← hDl, h]; rfl)⟩])
          obtain ⟨x0, x1, x2, x3⟩ := cells4d HB.out.bx
          have d3 : s.length ≤ F := by omega
          clear hC hend hF2 hDl hcur hD0
          go_wp2_with fail
          refine bodyPost_ret (v := .tuple #[cdV A n c r l k, .int .i64 0]) (by simp [results, Tryd.results14, go_sem, cdV, z0, z1, z2, z3]) rfl ?_
          refine ⟨⟨A, n, c, by rw [HPC.out]; rfl, ?_⟩, ?_⟩
          · rw [HPC.out]
            have hb : w.heap.size < W0.heap.size + 1 := by omega
            exact IRow.own (own_setA (own_setA (own_setA (own_setA HB.out.ow _ hb) _ hb) _ hb) _ hb)
          · repeat (first | (with_reducible exact Below.refl _ _) | (with_reducible assumption) | refine Below.setCell ?_ (by simp <;> omega) _ | refine Below.alloc ?_ (by simp <;> omega) _ | refine Below.drew ?_)
end Go.Proofs.YtpodniljpinigaaDoor.C
