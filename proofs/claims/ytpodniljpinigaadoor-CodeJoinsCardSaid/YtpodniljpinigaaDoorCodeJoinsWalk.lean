/- CodeJoins' walk: for every two codes and every line it returns true. -/
import Derived.Test.YtpodniljpinigaaDoorCodeTidy
import Derived.Test.YtpodniljpinigaaDoorCodeSame
import Derived.Test.YtpodniljpinigaaDoorCodeLaw
import Derived.Test.YtpodniljpinigaaDoorSchedApp
import Derived.Test.YtpodniljpinigaaDoorSched
namespace Go.Proofs.YtpodniljpinigaaDoor.codeJoins
open Go.RowKit O V C

/-- The two codes' boxes. -/
structure TB (w : World) (A : Option Addr) (n c : Nat) (x : Cd) (A' : Option Addr) (n' c' : Nat) (y : Cd) (W : World) : Prop where
  bx : W.heap[w.heap.size]? = some (.cells #[.slice A n c, .int .i64 x.r, .int .i64 x.l, .int .i64 x.k] 24 (0, 0))
  by_ : W.heap[w.heap.size + 1]? = some (.cells #[.slice A' n' c', .int .i64 y.r, .int .i64 y.l, .int .i64 y.k] 24 (0, 0))
  be : Below w.heap.size w W
theorem TB.next {w W W' : World} {A A' : Option Addr} {n c n' c' : Nat} {x y : Cd} (h : TB w A n c x A' n' c' y W) (b : Below W.heap.size W W') : TB w A n c x A' n' c' y W' := ⟨box_next h.bx b, box_next h.by_ b, bthen h.be b⟩
theorem TB.drew {w W : World} {A A' : Option Addr} {n c n' c' : Nat} {x y : Cd} (h : TB w A n c x A' n' c' y W) : TB w A n c x A' n' c' y W.drew := ⟨h.bx, h.by_, h.be.drew⟩
theorem TB.size {w W : World} {A A' : Option Addr} {n c n' c' : Nat} {x y : Cd} (h : TB w A n c x A' n' c' y W) : w.heap.size + 1 < W.heap.size := (Array.getElem?_eq_some_iff.1 h.by_).1
theorem TB.grown {w W W' : World} {A A' : Option Addr} {n c n' c' : Nat} {x y : Cd} {row : Option Nat} (h : TB w A n c x A' n' c' y W) (g : W.grownBy W' row) (hr : ∀ j, row = some j → w.heap.size + 2 ≤ j) : TB w A n c x A' n' c' y W' := by
  have l2 := h.size
  refine ⟨?_, ?_, ?_⟩
  · rw [g.block _ (by omega) (fun e => by have := hr _ e.symm; omega)]; exact h.bx
  · rw [g.block _ l2 (fun e => by have := hr _ e.symm; omega)]; exact h.by_
  · exact h.be.trans ⟨g.os, g.tape, g.output, g.size, fun i hi => g.block i (by omega) (fun e => by have := hr _ e.symm; omega)⟩
theorem TB.set3 {w W : World} {A A' : Option Addr} {n c n' c' : Nat} {x y : Cd} (h : TB w A n c x A' n' c' y W) (r l k : Int) : TB w A n c ⟨r, l, k, x.ins⟩ A' n' c' y (((W.setCell ⟨w.heap.size, 1, none⟩ (.int .i64 r)).setCell ⟨w.heap.size, 2, none⟩ (.int .i64 l)).setCell ⟨w.heap.size, 3, none⟩ (.int .i64 k)) := by
  have hne : w.heap.size + 1 ≠ w.heap.size := by omega
  refine ⟨?_, (Below.heap_setCell _ _ _ _ hne).trans ((Below.heap_setCell _ _ _ _ hne).trans ((Below.heap_setCell _ _ _ _ hne).trans h.by_)), ((h.be.setCell (Nat.le_refl _) _).setCell (Nat.le_refl _) _).setCell (Nat.le_refl _) _⟩
  have := heap_setC (i := 3) (heap_setC (i := 2) (heap_setC (i := 1) h.bx (.int .i64 r)) (.int .i64 l)) (.int .i64 k)
  simpa using this
theorem TB.other {w W : World} {A A' : Option Addr} {n c n' c' : Nat} {x y : Cd} (h : TB w A n c x A' n' c' y W) {g i : Nat} (hg : w.heap.size + 2 ≤ g) (v : Value) : TB w A n c x A' n' c' y (W.setCell ⟨g, i, none⟩ v) :=
  ⟨(Below.heap_setCell _ _ _ _ (show w.heap.size ≠ g by omega)).trans h.bx, (Below.heap_setCell _ _ _ _ (show w.heap.size + 1 ≠ g by omega)).trans h.by_, h.be.setCell (show w.heap.size ≤ g by omega) _⟩
theorem irow_of {w : World} {base e n c : Nat} {A : Option Addr} {l : List Ins} {xs : List Value} (h : w.ownsRow base e 8 (.slice A n c) n xs) (hp : Reps InsD l xs) : IRow w A n c l := ⟨⟨xs, Rd.of_own h, hp⟩, own_capC h⟩
theorem rows_light : ∀ (xs : List Ins), (∀ x ∈ xs, okP x ∧ x.v.s.length ≤ 100) → (rowsL xs).length ≤ xs.length * 1501
  | [], _ => by simp [rowsL]
  | x :: xs, h => by
    have h1 := rows_light xs (fun y hy => h y (by simp [hy]))
    have h2 := light_len (h x (by simp)).1 (h x (by simp)).2
    have e : rowsL (x :: xs) = printI x ++ [10] ++ rowsL xs := by simp [rowsL]
    rw [e]; simp only [List.length_append, List.length_cons, List.length_nil]; omega
theorem box_grown {W W' : World} {g : Nat} {o : Obj} {row : Option Nat} (h : W.heap[g]? = some o) (k : W.grownBy W' row) (hr : ∀ j, row = some j → g < j) : W'.heap[g]? = some o := by
  rw [k.block g (Array.getElem?_eq_some_iff.1 h).1 (fun e => by have := hr _ e.symm; omega)]; exact h
set_option maxHeartbeats 4000000 in
set_option maxRecDepth 100000 in
theorem walk (v0 : Value) (x : Cd) (v1 : Value) (y : Cd) (s : ByteArray) (w : World) (h0 : IsCode w v0 x) (h1 : IsCode w v1 y) (hs : s.size ≤ maxLen) :
    Calls Tryd.prog 4 #[v0, v1, .string s] w fun e w' => e = .returned (.bool true) ∧ Below w.heap.size w w' := by
  obtain ⟨A, n, c, rfl, hx, ox, hc⟩ := h0
  obtain ⟨A', n', c', rfl, hy, oy, hc'⟩ := h1
  obtain ⟨l, rfl⟩ : ∃ l : List UInt8, s = ⟨l.toArray⟩ := ⟨s.data.toList, by cases s; simp⟩
  have hsz : (ByteArray.mk l.toArray).size = l.length := by simp [ByteArray.size]
  rw [hsz] at hs
  unfold maxLen at hs hc hc'
  have hn := hx.n
  have hn' := hy.n
  have hT : TB w A n c x A' n' c' y ((w.alloc (.cells #[.slice A n c, .int .i64 x.r, .int .i64 x.l, .int .i64 x.k] 24)).alloc (.cells #[.slice A' n' c', .int .i64 y.r, .int .i64 y.l, .int .i64 y.k] 24)) :=
    ⟨alloc_old' (alloc_at rfl), alloc_at (by simp), ((Below.refl _ _).alloc (Nat.le_refl _) _).alloc (by simp) _⟩
  have HT := Lib.hid hT
  have hS2 : ((w.alloc (.cells #[.slice A n c, .int .i64 x.r, .int .i64 x.l, .int .i64 x.k] 24)).alloc (.cells #[.slice A' n' c', .int .i64 y.r, .int .i64 y.l, .int .i64 y.k] 24)).heap.size = w.heap.size + 2 := by simp
  obtain ⟨x0, x1, x2, x3⟩ := cells4d hT.bx
  obtain ⟨y0, y1, y2, y3⟩ := cells4d hT.by_
  have HX := Lib.hid hx
  have HY := Lib.hid hy
  clear hT hx hy
  unfold cdV
  have hni : (n : Int) ≤ 9223372036854775807 := by omega
  have hni' : (n' : Int) ≤ 9223372036854775807 := by omega
  by_cases h60 : (n : Int) > 30
  · have d1 : decide ((n : Int) > 30) = true := by simpa using h60
    have h60n : 30 < n := by omega
    go_enter Tryd.func4, Tryd.ntmps4
    go_wp2_with fail
    refine (clives_any _).mono ?_; rintro e w1 ⟨rfl, b1⟩
    go_wp2_with fail
    go_ret
    exact ⟨rfl, (HT.out.next b1).be⟩
  · have d1 : decide ((n : Int) > 30) = false := by simpa using h60
    have h60n : ¬ 30 < n := by omega
    by_cases h61 : (n' : Int) > 30
    · have d2 : decide ((n' : Int) > 30) = true := by simpa using h61
      have h61n : 30 < n' := by omega
      go_enter Tryd.func4, Tryd.ntmps4
      go_wp2_with fail
      refine (clives_any _).mono ?_; rintro e w1 ⟨rfl, b1⟩
      go_wp2_with fail
      go_ret
      exact ⟨rfl, (HT.out.next b1).be⟩
    · have d2 : decide ((n' : Int) > 30) = false := by simpa using h61
      have h61n : ¬ 30 < n' := by omega
      by_cases h62 : (l.length : Int) > 100
      · have d3 : decide ((l.length : Int) > 100) = true := by simpa using h62
        have h62n : 100 < l.length := by omega
        go_enter Tryd.func4, Tryd.ntmps4
        go_wp2_with fail
        refine (clives_any _).mono ?_; rintro e w1 ⟨rfl, b1⟩
        go_wp2_with fail
        go_ret
        exact ⟨rfl, (HT.out.next b1).be⟩
      · have d3 : decide ((l.length : Int) > 100) = false := by simpa using h62
        have h62n : ¬ 100 < l.length := by omega
        go_enter Tryd.func4, Tryd.ntmps4
        go_wp2_with fail
        generalize ((w.alloc (.cells #[.slice A n c, .int .i64 x.r, .int .i64 x.l, .int .i64 x.k] 24)).alloc (.cells #[.slice A' n' c', .int .i64 y.r, .int .i64 y.l, .int .i64 y.k] 24)) = W2 at *
        clear x0 x1 x2 x3 y0 y1 y2 y3
        go_loop [6, 37] (fun _ iv => ∃ j : Nat, j ≤ l.length ∧ iv = .int .i64 (j : Int) ∧ Hid ((10 : UInt8) ∉ l.take j)) (fun _ iv => l.length - (intOf iv).toNat)
        case atStart => exact ⟨0, by omega, rfl, Lib.hid (by simp)⟩
        case round =>
          obtain ⟨j, hj, rfl, HL⟩ := hrel
          by_cases hlt : j < l.length
          · have hji : (j : Int) < (l.length : Int) := by omega
            obtain ⟨b, hb⟩ : ∃ b, l[j] = b := ⟨_, rfl⟩
            have hx := ba_at l j hlt hb
            have HTK : Hid (l.take (j + 1) = l.take j ++ [b]) := Lib.hid (by rw [List.take_succ_eq_append_getElem hlt, hb])
            clear hb
            by_cases hb10 : b = 10
            · subst hb10
              have e10 : (((10 : UInt8).toNat : Int) == 10) = true := rfl
              go_wp2_with fail
              refine (clives_any _).mono ?_; rintro e w7 ⟨rfl, b7⟩
              go_wp2_with fail
              go_ret
              exact ⟨rfl, (HT.out.next b7).be⟩
            · have e10 : ((b.toNat : Int) == 10) = false := by
                simp; intro e; exact hb10 (UInt8.toNat_inj.1 (by simp; omega))
              have HB10 := Lib.hid hb10
              clear hb10
              go_wp2_with fail
              go_round
              case rel => exact ⟨j + 1, by omega, by go_num, Lib.hid (by
                rw [HTK.out, List.mem_append, not_or]
                exact ⟨HL.out, by rw [List.mem_singleton]; exact fun e => HB10.out e.symm⟩)⟩
              case measure => simp [intOf]; omega
          · obtain rfl : j = l.length := by omega
            have hno := HL.out
            rw [List.take_length] at hno
            have HNO := Lib.hid hno
            clear hno HL
            go_wp2_with fail
            obtain ⟨xs, hrx, hpx⟩ := HX.out.rd
            obtain ⟨ys, hry, hpy⟩ := HY.out.rd
            have h1x : ∀ u ∈ xs, u.oneCell' = true := hpx.all InsD.one
            have h1y : ∀ u ∈ ys, u.oneCell' = true := hpy.all InsD.one
            have HRX := Lib.hid hrx
            have HRY := Lib.hid hry
            have HPP := Lib.hid (hpx.append hpy)
            have HONE := Lib.hid (And.intro h1x h1y)
            clear hrx hry hpx hpy h1x h1y
            refine wp_region_schedB [w.heap.size, w.heap.size + 1] [(1, true), (2, true), (4, true), (5, true), (8, true), (0, false), (3, false), (6, false), (7, true)] (by kernel_rfl) (by kernel_rfl) (fun _ _ d _ _ h => by cases d <;> exact h) ?_
            refine bwith (fun W hW => (cells4d ((hW w.heap.size (by simp)).trans HT.out.bx))) (fun q0 => ?_)
            refine bwith (fun W hW => (cells4d ((hW (w.heap.size + 1) (by simp)).trans HT.out.by_))) (fun q1 => ?_)
            repeat (first | (refine sreadxB rfl rfl ?_; apply Exists.intro; apply And.intro; (· (intro W hW; first | (go_simp; done) | (go_simp; with_reducible rfl) | (go_simp; rw [if_neg (by omega)]; done) | (go_simp; rw [if_neg (by omega)]; with_reducible rfl))); simp only [Act.put, List.setIfInBounds_toArray, List.set_cons_zero, List.set_cons_succ]) | (refine bskip rfl rfl ?_; simp only [Act.put, List.setIfInBounds_toArray, List.set_cons_zero, List.set_cons_succ]))
            have hO2 := own_mtb W2 (e := 29) (size := 8) hS2.symm (Nat.le_refl _)
            have HB3 := Lib.hid (HT.out.be.alloc (by omega) (.cells #[] 29)).drew
            refine bcall rfl rfl (fun K hK => ?_)
            go_simp
            refine hK.out _ _ (KB.of_below ((Below.refl _ _).alloc (Nat.le_refl _) _) (fun k hk => by simp at hk; rcases hk with rfl | rfl <;> simp <;> omega)) ?_
            clear hK K
            try simp only [Act.put, List.setIfInBounds_toArray, List.set_cons_zero, List.set_cons_succ]
            refine bapp rfl rfl (.tmp 46) (.tmp 48) insE rfl (w.heap.size + 2) [] rfl hO2 rfl xs (HRX.out.next HB3.out) HONE.out.1 (by unfold maxLen; omega) (by omega) (by simp; omega) (fun b hb => by simp at hb; omega) (Nat.zero_add n) (List.nil_append xs) ?_
            intro A3 c3 w3 o3 g3
            have hown3 : ∀ g, (Value.slice (some ⟨w.heap.size + 2, 0, none⟩) 0 0).ownBlock = some g → w.heap.size + 2 ≤ g := fun g hg => (hO2.lt g hg).1
            have hT3 := (HT.out.next ((Below.refl _ _).alloc (Nat.le_refl _) (.cells #[] 29))).drew
            have HT3 := Lib.hid (hT3.grown g3 hown3)
            have HB3' := Lib.hid HT3.out.be
            try simp only [Act.put, List.setIfInBounds_toArray, List.set_cons_zero, List.set_cons_succ]
            refine bapp rfl rfl (.tmp 49) (.tmp 51) insE rfl (w.heap.size + 2) xs rfl o3 rfl ys (HRY.out.next HB3'.out) HONE.out.2 (by unfold maxLen; omega) (by omega) (by have := g3.size; simp at this; omega) (fun b hb => by simp at hb; omega) rfl rfl ?_
            intro A4 c4 w4 o4 g4
            have HT4 := Lib.hid (HT3.out.grown g4 (fun g hg => (o3.lt g hg).1))
            have HI4 := Lib.hid (irow_of o4 HPP.out)
            obtain ⟨N, hN⟩ : ∃ N, n + n' = N := ⟨_, rfl⟩
            rw [hN] at o4 HI4 ⊢
            try simp only [Act.put, List.setIfInBounds_toArray, List.set_cons_zero, List.set_cons_succ]
            repeat (first | (refine sreadxB rfl rfl ?_; apply Exists.intro; apply And.intro; (· (intro W hW; first | (go_simp; done) | (go_simp; with_reducible rfl) | (go_simp; rw [if_neg (by omega)]; done) | (go_simp; rw [if_neg (by omega)]; with_reducible rfl))); simp only [Act.put, List.setIfInBounds_toArray, List.set_cons_zero, List.set_cons_succ]) | (refine bskip rfl rfl ?_; simp only [Act.put, List.setIfInBounds_toArray, List.set_cons_zero, List.set_cons_succ]))
            refine bdone ?_
            have HNN := Lib.hid hN
            have hNl : N ≤ 60 := by omega
            clear o3 g3 o4 g4 HB3 HB3' hT3 HT3 hown3 hO2 q0 q1 hN HT
            go_wp2_with fail
            go_loopw [6, 54] (fun _ iv wr => ∃ j : Nat, j ≤ N ∧ iv = .int .i64 (j : Int) ∧ Hid (∀ q ∈ (x.ins ++ y.ins).take j, q.v.s.length ≤ 100 ∧ tidy q) ∧ Hid (Below w4.heap.size w4 wr)) (fun _ iv _ => N - (intOf iv).toNat)
            case atStart => exact ⟨0, by omega, rfl, Lib.hid (by simp), Lib.hid (Below.refl _ _)⟩
            case round =>
              obtain ⟨j, hj, rfl, HL, HB⟩ := hrel
              have hlen := HI4.out.len
              by_cases hlt : j < N
              · have hji : (j : Int) < (N : Int) := by omega
                have hjl : j < (x.ins ++ y.ins).length := by rw [hlen]; exact hlt
                obtain ⟨b1, off, rfl, hbl, hc8⟩ := HI4.out.at8 hjl
                obtain ⟨c0, c1, c2, c3, c4, c5, c6, c7⟩ := hc8 wr HB.out
                have HTK : Hid ((x.ins ++ y.ins).take (j + 1) = (x.ins ++ y.ins).take j ++ [(x.ins ++ y.ins)[j]]) := Lib.hid (List.take_succ_eq_append_getElem hjl)
                have HIO : Hid (InsOk (x.ins ++ y.ins)[j]) := Lib.hid (by
                  have hmem := List.getElem_mem hjl
                  rcases List.mem_append.1 hmem with h | h
                  · exact ox.i _ h
                  · exact oy.i _ h)
                have hqs : ((x.ins ++ y.ins)[j]).v.s.length ≤ 9223372036854775807 := by
                  have := HIO.out.v.s; unfold maxLen at this; omega
                clear hc8
                generalize (x.ins ++ y.ins)[j] = q at *
                clear hjl hlen
                have hQ := heap_alloc_new wr (.cells #[.int .i64 q.op, .int .i64 q.a, .int .i64 q.b, .int .i64 q.c, .int .i64 q.d, .int .i64 q.v.k, .int .i64 q.v.n, .string ⟨q.v.s.toArray⟩] 29)
                have HQ := Lib.hid hQ
                have HA : Hid (Below wr.heap.size wr (wr.alloc (.cells #[.int .i64 q.op, .int .i64 q.a, .int .i64 q.b, .int .i64 q.c, .int .i64 q.d, .int .i64 q.v.k, .int .i64 q.v.n, .string ⟨q.v.s.toArray⟩] 29))) := Lib.hid ((Below.refl _ _).alloc (Nat.le_refl _) _)
                obtain ⟨e0, e1, e2, e3, e4, e5, e6, e7⟩ := cells8c hQ
                clear hQ
                go_wp2_with fail
                refine (light_any q _ (by omega)).mono ?_; rintro e w5 ⟨rfl, b5⟩
                have HB5 := Lib.hid (bthen HB.out (bthen HA.out b5))
                have hQ5 := box_next HQ.out b5
                clear e0 e1 e2 e3 e4 e5 e6 e7 c0 c1 c2 c3 c4 c5 c6 c7
                obtain ⟨e0, e1, e2, e3, e4, e5, e6, e7⟩ := cells8c hQ5
                clear hQ5 b5
                by_cases hq : (q.v.s.length : Int) ≤ 100
                · rw [decide_eq_true hq]
                  have hq' : q.v.s.length ≤ 100 := by omega
                  go_wp2_with fail
                  refine (rtidy_any q _ (by omega) HIO.out.fl ⟨HIO.out.v.n1, HIO.out.v.n2⟩).mono ?_; rintro e w6 ⟨⟨f, rfl, hf⟩, b6⟩
                  have HB6 := Lib.hid (bthen HB5.out b6)
                  clear b6
                  cases f with
                  | true =>
                    have HTD := Lib.hid (hf rfl)
                    clear hf
                    go_wp2_with fail
                    go_roundw
                    case rel => exact ⟨j + 1, by omega, by go_num, Lib.hid (fun z hz => by
                      rw [HTK.out] at hz
                      rcases List.mem_append.1 hz with h | h
                      · exact HL.out z h
                      · rw [List.mem_singleton] at h; rw [h]; exact ⟨hq', HTD.out⟩), HB6⟩
                    case measure => simp [intOf]; omega
                  | false =>
                    clear hf
                    go_wp2_with fail
                    refine (clives_any _).mono ?_; rintro e w7 ⟨rfl, b7⟩
                    go_wp2_with fail
                    go_ret
                    exact ⟨rfl, bthen HT4.out.be (bthen HB6.out b7)⟩
                · rw [decide_eq_false hq]
                  go_wp2_with fail
                  refine (clives_any _).mono ?_; rintro e w7 ⟨rfl, b7⟩
                  go_wp2_with fail
                  go_ret
                  exact ⟨rfl, bthen HT4.out.be (bthen HB5.out b7)⟩
              · obtain rfl : j = N := by omega
                have hL := HL.out
                rw [List.take_of_length_le (by omega)] at hL
                have HLX : Hid (∀ q ∈ x.ins, q.v.s.length ≤ 100 ∧ tidy q) := Lib.hid (fun q hq => hL q (by simp [hq]))
                have HLY : Hid (∀ q ∈ y.ins, q.v.s.length ≤ 100 ∧ tidy q) := Lib.hid (fun q hq => hL q (by simp [hq]))
                have HT5 := Lib.hid (HT4.out.next HB.out)
                clear hL HL HB hlen HT4 HI4
                obtain ⟨x0, x1, x2, x3⟩ := cells4d HT5.out.bx
                obtain ⟨f0, f1, f2, f3⟩ := frozen4d HT5.out.bx
                go_wp2_with fail
                have hT7 := (HT5.out.set3 9 2 1).next ((Below.refl _ _).alloc (Nat.le_refl _) (.cells #[.slice A n c, .int .i64 9, .int .i64 2, .int .i64 1] 24))
                have hG7 := heap_alloc_new (((wr.setCell ⟨w.heap.size, 1, none⟩ (.int .i64 9)).setCell ⟨w.heap.size, 2, none⟩ (.int .i64 2)).setCell ⟨w.heap.size, 3, none⟩ (.int .i64 1)) (.cells #[.slice A n c, .int .i64 9, .int .i64 2, .int .i64 1] 24)
                have hS7 : ((((wr.setCell ⟨w.heap.size, 1, none⟩ (.int .i64 9)).setCell ⟨w.heap.size, 2, none⟩ (.int .i64 2)).setCell ⟨w.heap.size, 3, none⟩ (.int .i64 1)).alloc (.cells #[.slice A n c, .int .i64 9, .int .i64 2, .int .i64 1] 24)).heap.size = wr.heap.size + 1 := by simp
                rw [show (((wr.setCell ⟨w.heap.size, 1, none⟩ (.int .i64 9)).setCell ⟨w.heap.size, 2, none⟩ (.int .i64 2)).setCell ⟨w.heap.size, 3, none⟩ (.int .i64 1)).heap.size = wr.heap.size by simp] at hG7
                generalize (((wr.setCell ⟨w.heap.size, 1, none⟩ (.int .i64 9)).setCell ⟨w.heap.size, 2, none⟩ (.int .i64 2)).setCell ⟨w.heap.size, 3, none⟩ (.int .i64 1)).alloc (.cells #[.slice A n c, .int .i64 9, .int .i64 2, .int .i64 1] 24) = W7 at *
                have hgw := HT5.out.size
                have HT7 := Lib.hid hT7
                have HG7 := Lib.hid hG7
                clear hT7 hG7 x0 x1 x2 x3 f0 f1 f2 f3 HT5
                generalize wr.heap.size = g at *
                refine wp_region_schedB [w.heap.size, w.heap.size + 1] [(1, true), (2, true), (4, true), (5, true), (0, false), (3, false), (6, false), (7, true), (8, false)] (by kernel_rfl) (by kernel_rfl) (fun _ _ d _ _ h => by cases d <;> exact h) ?_
                refine bwith (fun W hW => (cells4d ((hW w.heap.size (by simp)).trans HT7.out.bx))) (fun q0 => ?_)
                refine bwith (fun W hW => (cells4d ((hW (w.heap.size + 1) (by simp)).trans HT7.out.by_))) (fun q1 => ?_)
                repeat (first | (refine sreadxB rfl rfl ?_; apply Exists.intro; apply And.intro; (· (intro W hW; first | (go_simp; done) | (go_simp; with_reducible rfl) | (go_simp; rw [if_neg (by omega)]; done) | (go_simp; rw [if_neg (by omega)]; with_reducible rfl))); simp only [Act.put, List.setIfInBounds_toArray, List.set_cons_zero, List.set_cons_succ]) | (refine bskip rfl rfl ?_; simp only [Act.put, List.setIfInBounds_toArray, List.set_cons_zero, List.set_cons_succ]))
                have hO7 := own_mtb W7 (e := 29) (size := 8) hS7.symm (Nat.le_refl _)
                have HB8 := Lib.hid (HT7.out.be.alloc (by omega) (.cells #[] 29)).drew
                refine bcall rfl rfl (fun K hK => ?_)
                go_simp
                refine hK.out _ _ (KB.of_below ((Below.refl _ _).alloc (Nat.le_refl _) _) (fun k hk => by simp at hk; rcases hk with rfl | rfl <;> simp <;> omega)) ?_
                clear hK K
                try simp only [Act.put, List.setIfInBounds_toArray, List.set_cons_zero, List.set_cons_succ]
                refine bapp rfl rfl (.tmp 72) (.tmp 74) insE rfl (g + 1) [] rfl hO7 rfl xs (HRX.out.next HB8.out) HONE.out.1 (by unfold maxLen; omega) (by omega) (by simp; omega) (fun b hb => by simp at hb; omega) (Nat.zero_add n) (List.nil_append xs) ?_
                intro A8 c8 w8 o8 g8
                have hown8 : ∀ q, (Value.slice (some ⟨g + 1, 0, none⟩) 0 0).ownBlock = some q → g + 1 ≤ q := fun q hq => (hO7.lt q hq).1
                have hT8 := (HT7.out.next ((Below.refl _ _).alloc (Nat.le_refl _) (.cells #[] 29))).drew
                have hG8 := box_next HG7.out ((Below.refl _ _).alloc (Nat.le_refl _) (.cells #[] 29))
                have HT8 := Lib.hid (hT8.grown g8 (fun q hq => by have := hown8 q hq; omega))
                have HG8 := Lib.hid (box_grown (show ((W7.alloc (.cells #[] 29)).drew).heap[g]? = _ from hG8) g8 (fun q hq => by have := hown8 q hq; omega))
                have HB8' := Lib.hid HT8.out.be
                try simp only [Act.put, List.setIfInBounds_toArray, List.set_cons_zero, List.set_cons_succ]
                refine bapp rfl rfl (.tmp 75) (.tmp 77) insE rfl (g + 1) xs rfl o8 rfl ys (HRY.out.next HB8'.out) HONE.out.2 (by unfold maxLen; omega) (by omega) (by have := g8.size; simp at this; omega) (fun b hb => by simp at hb; omega) rfl rfl ?_
                intro A9 c9 w9 o9 g9
                have HT9 := Lib.hid (HT8.out.grown g9 (fun q hq => by have := (o8.lt q hq).1; omega))
                have HG9 := Lib.hid (box_grown HG8.out g9 (fun q hq => by have := (o8.lt q hq).1; omega))
                rw [HNN.out] at o9 ⊢
                try simp only [Act.put, List.setIfInBounds_toArray, List.set_cons_zero, List.set_cons_succ]
                obtain ⟨b0, b1, b2, b3⟩ := cells4d HG9.out
                obtain ⟨f0, f1, f2, f3⟩ := frozen4d HG9.out
                repeat (first | (refine sreadxB rfl rfl ?_; apply Exists.intro; apply And.intro; (· (intro W hW; first | (go_simp; done) | (go_simp; with_reducible rfl) | (go_simp; rw [if_neg (by omega)]; done) | (go_simp; rw [if_neg (by omega)]; with_reducible rfl))); simp only [Act.put, List.setIfInBounds_toArray, List.set_cons_zero, List.set_cons_succ]) | (refine bskip rfl rfl ?_; simp only [Act.put, List.setIfInBounds_toArray, List.set_cons_zero, List.set_cons_succ]))
                refine bcall rfl rfl (fun K hK => ?_)
                go_simp
                refine hK.out _ _ (fun k hk => ?_) ?_
                · simp at hk
                  exact Below.heap_setCell _ _ _ _ (by rcases hk with rfl | rfl <;> simp <;> omega)
                clear hK K
                try simp only [Act.put, List.setIfInBounds_toArray, List.set_cons_zero, List.set_cons_succ]
                refine bdone ?_
                have hHP := heap_setC (i := 0) HG9.out (.slice A9 j c9)
                have HG10 : Hid ((w9.setCell ⟨g, 0, none⟩ (.slice A9 j c9)).heap[g]? = some (.cells #[.slice A9 j c9, .int .i64 9, .int .i64 2, .int .i64 1] 24 (0, 0))) := Lib.hid (by simpa using hHP)
                have HT10 := Lib.hid (HT9.out.other (g := g) (i := 0) (by omega) (.slice A9 j c9))
                have HI10 := Lib.hid (irow_of (own_setA (b := g) (j := 0) o9 (.slice A9 j c9) (by omega)) HPP.out)
                generalize w9.setCell ⟨g, 0, none⟩ (.slice A9 j c9) = W10 at *
                clear hHP b0 b1 b2 b3 f0 f1 f2 f3 HG9 HT9 HG8 HT8 HB8 HB8' hT8 hG8 o8 o9 g8 g9 hO7 hown8 q0 q1 HT7 HG7 hS7 HPP HONE HRX HRY xs ys hS2
                obtain ⟨x0, x1, x2, x3⟩ := cells4d HT10.out.bx
                have HOX : Hid (∀ q ∈ x.ins, okP q) := Lib.hid (fun q hq => (HLX.out q hq).2.ok)
                have HOY : Hid (∀ q ∈ y.ins, okP q) := Lib.hid (fun q hq => (HLY.out q hq).2.ok)
                have HOXY : Hid (∀ q ∈ x.ins ++ y.ins, okP q) := Lib.hid (fun q hq => by
                  rcases List.mem_append.1 hq with h | h
                  · exact HOX.out q h
                  · exact HOY.out q h)
                have hf9 : fit 9 := ⟨by decide, by decide⟩
                have hf2 : fit 2 := ⟨by decide, by decide⟩
                have hf1 : fit 1 := ⟨by decide, by decide⟩
                have hjj : j ≤ 60 := hNl
                go_wp2_with fail
                refine (cprintA_any A n c 9 2 1 x.ins _ (HX.out.next HT10.out.be) (by omega) HOX.out hf9 hf2 hf1).mono ?_; rintro e w11 ⟨rfl, b11⟩
                have HT11 := Lib.hid (HT10.out.next b11)
                have HG11 := Lib.hid (box_next HG10.out b11)
                have HI11 := Lib.hid (HI10.out.next b11)
                have hlx := HX.out.len
                have hly := HY.out.len
                have hpl : (printA ⟨9, 2, 1, x.ins⟩).length ≤ 46000 := by
                  have h1 := rows_light x.ins (fun q hq => ⟨HOX.out q hq, (HLX.out q hq).1⟩)
                  have h2 := head_len hf9 hf2 hf1
                  unfold printA
                  dsimp only
                  simp only [List.length_append, List.length_cons, List.length_nil]
                  omega
                have HJ : Hid (printA ⟨9, 2, 1, x.ins ++ y.ins⟩ = printA ⟨9, 2, 1, x.ins⟩ ++ rowsL y.ins) := Lib.hid (printA_app 9 2 1 x.ins y.ins)
                have HBAD : Hid (parseM l = none → (parseA (printA ⟨9, 2, 1, x.ins⟩ ++ (l ++ 10 :: rowsL y.ins))).2 = n + 2) := Lib.hid (fun h => by
                  rw [parseA_bad (c := ⟨9, 2, 1, x.ins⟩) (fun q hq => (HLX.out q hq).2) (show inB 9 by decide) (show inB 2 by decide) (show inB 1 by decide) HNO.out h (rowsL y.ins), hlx])
                have hrl : (rowsL y.ins).length ≤ 46000 := by
                  have := rows_light y.ins (fun q hq => ⟨HOY.out q hq, (HLY.out q hq).1⟩)
                  omega
                have HYL := Lib.hid hly
                clear b11 x0 x1 x2 x3 hlx hly
                generalize printA ⟨9, 2, 1, x.ins⟩ = tx at *
                obtain ⟨y0, y1, y2, y3⟩ := cells4d HT11.out.by_
                go_wp2_with fail
                go_loopw [12, 85] (fun tv iv wr => ∃ i : Nat, i ≤ n' ∧ iv = .int .i64 (i : Int) ∧ tv = .string ⟨(rowsL (y.ins.take i)).toArray⟩ ∧ Hid (Below w11.heap.size w11 wr)) (fun _ iv _ => n' - (intOf iv).toNat)
                case atStart => exact ⟨0, by omega, rfl, by simp [rowsL], Lib.hid (Below.refl _ _)⟩
                case round =>
                  obtain ⟨i, hi, rfl, rfl, HB⟩ := hrel
                  by_cases hlt : i < n'
                  · have hji : (i : Int) < (n' : Int) := by omega
                    have hjl : i < y.ins.length := by rw [HYL.out]; exact hlt
                    obtain ⟨b1, off, rfl, hbl, hc8⟩ := HY.out.at8 hjl
                    obtain ⟨c0, c1, c2, c3, c4, c5, c6, c7⟩ := hc8 wr (HT11.out.be.trans (HB.out.mono HT11.out.be.size))
                    have hst := Lib.hid (rows_take hjl)
                    have hok := Lib.hid (HOY.out _ (List.getElem_mem hjl))
                    have hlen := hok.out.len
                    have hri : (rowsL (y.ins.take i)).length ≤ 46000 := by
                      have h1 := rows_light (y.ins.take i) (fun q hq => ⟨HOY.out q (List.mem_of_mem_take hq), (HLY.out q (List.mem_of_mem_take hq)).1⟩)
                      have h2 : (y.ins.take i).length ≤ 30 := by rw [List.length_take]; omega
                      omega
                    clear hc8
                    generalize y.ins[i] = q at *
                    obtain ⟨tl, htl⟩ : ∃ tl, rowsL (y.ins.take i) = tl := ⟨_, rfl⟩
                    rw [htl] at hri ⊢
                    have HTL := Lib.hid htl
                    clear htl
                    go_wp2_with fail
                    refine (cprint_any q _ hok.out.s hok.out.f hok.out.v).mono ?_; rintro e w13 ⟨rfl, b13⟩
                    have HB13 := Lib.hid (bthen HB.out (bthen ((Below.refl _ _).alloc (Nat.le_refl _) _) b13))
                    clear b13 c0 c1 c2 c3 c4 c5 c6 c7
                    generalize printI q = pl at *
                    have e10 := cat10 pl
                    go_wp2_with fail
                    go_roundw
                    case rel => exact ⟨i + 1, by omega, by go_num, by rw [ba_append, hst.out, ← HTL.out], HB13⟩
                    case measure => simp [intOf]; omega
                  · obtain rfl : i = n' := by omega
                    rw [List.take_of_length_le (by rw [HYL.out]; exact Nat.le_refl _)]
                    have HT12 := Lib.hid (HT11.out.next HB.out)
                    have HG12 := Lib.hid (box_next HG11.out HB.out)
                    have HI12 := Lib.hid (HI11.out.next HB.out)
                    clear HT11 HG11 HI11 HB y0 y1 y2 y3 HT10 HG10 HI10
                    generalize rowsL y.ins = tl at *
                    go_wp2_with fail
                    refine (rparse_c l _ (by omega)).mono ?_; rintro e w14 ⟨⟨z, rfl, hz⟩, b14⟩
                    rw [parseRf_eq]
                    clear hz
                    have BZ : Below w14.heap.size w14 (w14.alloc (.cells (insC z).toArray 29)) := (Below.refl _ _).alloc (Nat.le_refl _) _
                    have HT14 := Lib.hid ((HT12.out.next b14).next BZ)
                    have HG14 := Lib.hid (box_next (box_next HG12.out b14) BZ)
                    have HI14 := Lib.hid ((HI12.out.next b14).next BZ)
                    clear b14 BZ HT12 HG12 HI12
                    unfold insV
                    unfold insC at *
                    have e1 : ByteArray.mk tx.toArray ++ ByteArray.mk l.toArray = ⟨(tx ++ l).toArray⟩ := ba_append _ _
                    have e2 := cat10 (tx ++ l)
                    have e3 : ByteArray.mk (tx ++ (l ++ [10])).toArray ++ ByteArray.mk tl.toArray = ⟨(tx ++ (l ++ 10 :: tl)).toArray⟩ := by rw [ba_append]; simp
                    have hTl : (tx ++ (l ++ 10 :: tl)).length ≤ 100000 := by simp only [List.length_append, List.length_cons]; omega
                    go_wp2_with fail
                    refine (cparseA_any (tx ++ (l ++ 10 :: tl)) _ hTl).mono ?_; rintro e w16 ⟨⟨P, p, pc, rfl, hI16⟩, b16⟩
                    obtain ⟨⟨⟨r, lc, kc, us⟩, k⟩, hpa⟩ : ∃ pa, parseA (tx ++ (l ++ 10 :: tl)) = pa := ⟨_, rfl⟩
                    rw [hpa]
                    have HBAD2 : Hid (parseM l = none → k = n + 2) := Lib.hid (fun h => by have := HBAD.out h; rw [hpa] at this; exact this)
                    dsimp only
                    unfold cdV
                    have BP : Below w16.heap.size w16 (w16.alloc (.cells #[.slice P p pc, .int .i64 r, .int .i64 lc, .int .i64 kc] 24)) := (Below.refl _ _).alloc (Nat.le_refl _) _
                    have HT16 := Lib.hid ((HT14.out.next b16).next BP)
                    have HG16 := Lib.hid (box_next (box_next HG14.out b16) BP)
                    have HI16 := Lib.hid ((HI14.out.next b16).next BP)
                    obtain ⟨x0, x1, x2, x3⟩ := cells4d HT16.out.bx
                    obtain ⟨y0, y1, y2, y3⟩ := cells4d HG16.out
                    clear hpa hI16 HT14 HG14 HI14 b16 BP HBAD e1 e2 e3
                    go_wp2_with fail
                    refine (cprintA_any A9 j c9 9 2 1 (x.ins ++ y.ins) _ HI16.out (by omega) HOXY.out hf9 hf2 hf1).mono ?_; rintro e w17 ⟨rfl, b17⟩
                    rw [HJ.out]
                    have HT17 := Lib.hid (HT16.out.next b17)
                    clear x0 x1 x2 x3 y0 y1 y2 y3 b17
                    obtain ⟨x0, x1, x2, x3⟩ := cells4d HT17.out.bx
                    have e1 : ByteArray.mk tx.toArray ++ ByteArray.mk tl.toArray = ⟨(tx ++ tl).toArray⟩ := ba_append _ _
                    cases hpm : parseM l with
                    | some zz =>
                      clear hpm
                      simp only [Option.isSome]
                      go_wp2_with fail
                      refine (clives_any _).mono ?_; rintro e w18 ⟨rfl, b18⟩
                      go_wp2_with fail
                      go_ret
                      exact ⟨rfl, (HT17.out.next b18).be⟩
                    | none =>
                      have hk := HBAD2.out hpm
                      have ek : ((k : Int) == (n : Int) + 2) = true := by simp; omega
                      clear hpm hk
                      simp only [Option.isSome]
                      go_wp2_with fail
                      refine (clives_any _).mono ?_; rintro e w18 ⟨rfl, b18⟩
                      go_wp2_with fail
                      go_ret
                      exact ⟨rfl, (HT17.out.next b18).be⟩
end Go.Proofs.YtpodniljpinigaaDoor.codeJoins
