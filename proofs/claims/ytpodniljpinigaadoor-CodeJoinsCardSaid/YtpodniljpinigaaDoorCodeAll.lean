/- The contract of code.ParseAll. -/
import Derived.Test.YtpodniljpinigaaDoorCodeHead2
namespace Go.Proofs.YtpodniljpinigaaDoor.C
open Go.RowKit O V

/-- What a reader of a whole text hands back. -/
def RetA (s : List UInt8) (e : Ending) (w' : World) : Prop := ∃ A n c, e = .returned (.tuple #[cdV A n c (parseA s).1.r (parseA s).1.l (parseA s).1.k, .int .i64 ((parseA s).2 : Int)]) ∧ IRow w' A n c (parseA s).1.ins
theorem retA_none {s : List UInt8} {k : Nat} (h : parseA s = (zC, k)) (w : World) : RetA s (.returned (.tuple #[cdV none 0 0 0 0 0, .int .i64 (k : Int)])) w := ⟨none, 0, 0, by rw [h]; rfl, by rw [h]; exact IRow.nil _ _⟩
/-- A code that grows in a box, and its row. -/
structure AB (W0 : World) (A : Option Addr) (n c : Nat) (r l k : Int) (xs : List Ins) (W : World) : Prop where
  bx : W.heap[W0.heap.size]? = some (.cells #[.slice A n c, .int .i64 r, .int .i64 l, .int .i64 k] 24 (0, 0))
  ow : W.ownsRow (W0.heap.size + 1) 29 8 (.slice A n c) n (xs.flatMap insC)
  be : Below W0.heap.size W0 W
theorem AB.next {W0 W W' : World} {A : Option Addr} {n c : Nat} {r l k : Int} {xs : List Ins} (h : AB W0 A n c r l k xs W) (b : Below W.heap.size W W') : AB W0 A n c r l k xs W' := ⟨box_next h.bx b, own_below h.ow b, bthen h.be b⟩
theorem AB.lt {W0 W : World} {A : Option Addr} {n c : Nat} {r l k : Int} {xs : List Ins} (h : AB W0 A n c r l k xs W) : W0.heap.size < W.heap.size := (Array.getElem?_eq_some_iff.1 h.bx).1
theorem own_setA {w : World} {base e size n b j : Nat} {v : Value} {xs : List Value} (h : w.ownsRow base e size v n xs) (u : Value) (hb : b < base) : (w.setCell ⟨b, j, none⟩ u).ownsRow base e size v n xs :=
  h.kept (row := some b) ⟨rfl, rfl, rfl, by simp, fun i _ hi => Below.heap_setCell _ _ _ _ (fun e => hi (by rw [e]))⟩ (.inr (fun e => by have := (h.lt _ e).1; omega))
theorem AB.app {W0 W W' : World} {A : Option Addr} {n c : Nat} {r l k : Int} {xs : List Ins} (h : AB W0 A n c r l k xs W) (g : W.grownBy W' (Value.slice A n c).ownBlock) : W'.heap[W0.heap.size]? = some (.cells #[.slice A n c, .int .i64 r, .int .i64 l, .int .i64 k] 24 (0, 0)) ∧ Below W0.heap.size W0 W' := by
  refine ⟨?_, h.be.trans ⟨g.os, g.tape, g.output, g.size, fun i hi => g.block i (Nat.lt_trans hi h.lt) (fun e => by have := (h.ow.lt i e.symm).1; omega)⟩⟩
  rw [g.block _ h.lt (fun e => by have := (h.ow.lt _ e.symm).1; omega)]
  exact h.bx
theorem AB.put {W0 W W' : World} {A A2 : Option Addr} {n c m c2 : Nat} {r l k : Int} {xs zs : List Ins} (h : AB W0 A n c r l k xs W) (g : W.grownBy W' (Value.slice A n c).ownBlock) (o : W'.ownsRow (W0.heap.size + 1) 29 8 (.slice A2 m c2) m (zs.flatMap insC)) :
    AB W0 A2 m c2 r l k zs (W'.setCell ⟨W0.heap.size, 0, none⟩ (.slice A2 m c2)) := by
  obtain ⟨h1, h2⟩ := h.app g
  refine ⟨?_, own_setA o _ (by omega), h2.setCell (Nat.le_refl _) _⟩
  have := heap_setC (i := 0) h1 (.slice A2 m c2)
  simpa using this
theorem cells_str {W : World} {b i : Nat} {ps : List (List UInt8)} {T : TypeId} (h : W.heap[b]? = some (.cells (ps.map strV).toArray T (0, 0))) (hi : i < ps.length) : W.cell? ⟨b, i, none⟩ = some (strV ps[i]) := by
  rw [Lib.cell_of_heap h]
  simp [hi, strV]
set_option maxHeartbeats 4000000 in
set_option maxRecDepth 100000 in
theorem cparseA_any (s : List UInt8) (w : World) (hs : s.length ≤ 100000) : Calls Tryd.prog 9 #[.string ⟨s.toArray⟩] w fun e w' => RetA s e w' ∧ Below w.heap.size w w' := by
  have hsz : (ByteArray.mk s.toArray).size = s.length := by simp [ByteArray.size]
  have hpl := pieces_len 10 s
  have hple := pieces_le 10 s
  have hpd : piecesL 10 s = (cutL 10 s).1 ++ [(cutL 10 s).2] := rfl
  have X1 := heap_alloc_new w (.cells zc.toArray 24)
  have W1 : Below w.heap.size w (w.alloc (.cells zc.toArray 24)) := (Below.refl _ _).alloc (Nat.le_refl _) _
  go_enter Tryd.func9, Tryd.ntmps9
  go_wp2_with fail
  generalize (w.alloc (.cells zc.toArray 24)) = V1 at *
  have hg1 : w.heap.size < V1.heap.size := (Array.getElem?_eq_some_iff.1 X1).1
  refine (ssplit_any s 10 _ (by omega)).mono ?_; rintro e w2 ⟨rfl, rfl⟩
  have P2 := heap_alloc_new V1 (.cells ((piecesL 10 s).map strV).toArray 9)
  have B2 : Below V1.heap.size V1 (V1.alloc (.cells ((piecesL 10 s).map strV).toArray 9)) := (Below.refl _ _).alloc (Nat.le_refl _) _
  have X2 := box_next X1 B2
  have W2 := bthen W1 B2
  generalize V1.alloc (.cells ((piecesL 10 s).map strV).toArray 9) = V2 at *
  generalize V1.heap.size = g1 at *
  generalize piecesL 10 s = ps at *
  obtain ⟨ls, tl, hc⟩ : ∃ ls tl, cutL 10 s = (ls, tl) := ⟨_, _, rfl⟩
  rw [hc] at hpd
  have HP2 := Lib.hid P2
  have HX2 := Lib.hid X2
  have HW2 := Lib.hid W2
  have hg2 : g1 < V2.heap.size := (Array.getElem?_eq_some_iff.1 P2).1
  clear P2 X1 X2 W1 W2 B2
  cases ls with
  | nil =>
    have hp : ps = [tl] := hpd
    subst hp
    have hcount : s.count 10 = 0 := by simpa using hpl.symm
    rw [hcount]
    have htl := hple tl (by simp)
    have HN : Hid (parseA s = (zC, 1)) := Lib.hid (by unfold parseA; rw [hc])
    have q0 := cells_str HP2.out (i := 0) (by simp)
    simp only [List.getElem_cons_zero] at q0
    clear hcount hpl hple hpd hc
    go_wp2_with fail
    refine (chead_any tl _ (by omega)).mono ?_; rintro e w3 ⟨⟨r, l, k, f, rfl, hh⟩, b3⟩
    unfold cdV
    have X4 := box_next (box_next HX2.out b3) ((Below.refl w3.heap.size w3).alloc (Nat.le_refl _) (.cells #[.slice none 0 0, .int .i64 r, .int .i64 l, .int .i64 k] 24))
    have W4 : Below w.heap.size w (w3.alloc (.cells #[.slice none 0 0, .int .i64 r, .int .i64 l, .int .i64 k] 24)) := bthen (bthen HW2.out b3) ((Below.refl w3.heap.size w3).alloc (Nat.le_refl _) _)
    obtain ⟨z0, z1, z2, z3⟩ := cells4d X4
    obtain ⟨y0, y1, y2, y3⟩ := frozen4d X4
    go_wp2_with fail
    refine bodyPost_ret (v := .tuple #[cdV none 0 0 0 0 0, .int .i64 (1 : Nat)]) (by simp [results, Tryd.results9, go_sem, cdV, z0, z1, z2, z3]) rfl ?_
    refine ⟨retA_none HN.out _, ?_⟩
    have := W4
    repeat (first | (with_reducible exact Below.refl _ _) | (with_reducible assumption) | refine Below.setCell ?_ (by simp <;> omega) _ | refine Below.alloc ?_ (by simp <;> omega) _ | refine Below.drew ?_)
  | cons l0 ls =>
    have hp : ps = l0 :: (ls ++ [tl]) := hpd
    have HPS := Lib.hid hp
    obtain ⟨n, hn⟩ : ∃ n, ls.length = n := ⟨_, rfl⟩
    have hpn : ps.length = n + 2 := by rw [hp]; simp; omega
    have hcount : s.count 10 + 1 = n + 2 := by rw [← hpl, hpn]
    have hn1 : n ≤ 100000 := by have := List.count_le_length (a := (10 : UInt8)) (l := s); omega
    rw [hcount]
    have hl0 := hple l0 (by rw [hp]; simp)
    have q0 := cells_str HP2.out (i := 0) (by omega)
    have e0 : ps[0]'(by omega) = l0 := by simp [hp]
    rw [e0] at q0
    have HN := Lib.hid hn
    have HPN := Lib.hid hpn
    have HPLE := Lib.hid hple
    have hPA : parseA s = match headM l0 with
      | none => (zC, 1)
      | some (r, l, k) => match parseLs ls 2 with
        | .inl n => (zC, n)
        | .inr xs => if tl = [] then (⟨r, l, k, xs⟩, 0) else (zC, ls.length + 2) := by unfold parseA; rw [hc]; rfl
    have HPA := Lib.hid hPA
    clear hcount hpl hple hpd hc hp e0 hn hpn hPA
    obtain ⟨m, hm⟩ : ∃ m, n + 2 = m := ⟨_, rfl⟩
    rw [hm]
    have hwr : IntKind.i64.wrap ((m : Int) - 1) = ((n + 1 : Nat) : Int) := by rw [IntWalk.i64_in _ (by omega)]; omega
    have hm0 : (0 : Int) < (m : Int) := by omega
    have hm00 : 0 < m := by omega
    obtain ⟨n1, hn1'⟩ : ∃ n1, n + 1 = n1 := ⟨_, rfl⟩
    rw [hn1'] at hwr
    have hz1 : ((n1 : Int) == 0) = false := by simp; omega
    go_wp2_with fail
    refine (chead_any l0 _ (by omega)).mono ?_; rintro e w3 ⟨⟨r, l, k, f, rfl, hh⟩, b3⟩
    unfold cdV
    have X4 := box_next (box_next HX2.out b3) ((Below.refl w3.heap.size w3).alloc (Nat.le_refl _) (.cells #[.slice none 0 0, .int .i64 r, .int .i64 l, .int .i64 k] 24))
    have W4 : Below w.heap.size w (w3.alloc (.cells #[.slice none 0 0, .int .i64 r, .int .i64 l, .int .i64 k] 24)) := bthen (bthen HW2.out b3) ((Below.refl w3.heap.size w3).alloc (Nat.le_refl _) _)
    obtain ⟨z0, z1, z2, z3⟩ := cells4d X4
    obtain ⟨y0, y1, y2, y3⟩ := frozen4d X4
    cases f with
    | false =>
      have HN : Hid (parseA s = (zC, 1)) := Lib.hid (by rw [HPA.out, hh]; rfl)
      clear hh
      go_wp2_with fail
      refine bodyPost_ret (v := .tuple #[cdV none 0 0 0 0 0, .int .i64 (1 : Nat)]) (by simp [results, Tryd.results9, go_sem, cdV, z0, z1, z2, z3]) rfl ?_
      refine ⟨retA_none HN.out _, ?_⟩
      have := W4
      repeat (first | (with_reducible exact Below.refl _ _) | (with_reducible assumption) | refine Below.setCell ?_ (by simp <;> omega) _ | refine Below.alloc ?_ (by simp <;> omega) _ | refine Below.drew ?_)
    | true =>
      have hPA : parseA s = match parseLs ls 2 with
        | .inl n => (zC, n)
        | .inr xs => if tl = [] then (⟨r, l, k, xs⟩, 0) else (zC, ls.length + 2) := by rw [HPA.out, hh]; rfl
      have HPA := Lib.hid hPA
      clear hPA hh
      go_wp2_with fail
      rw [show n1 - 1 = n by omega, show m - 1 = n1 by omega]
      have HX3 := Lib.hid (box_next HX2.out b3)
      have HP3 := Lib.hid (box_next HP2.out b3)
      have HW3 := Lib.hid (bthen HW2.out b3)
      have hg3 : w.heap.size < w3.heap.size := (Array.getElem?_eq_some_iff.1 HX3.out).1
      have hg4 : g1 < w3.heap.size := (Array.getElem?_eq_some_iff.1 HP3.out).1
      have hAB : AB w3 none 0 0 r l k [] (w3.alloc (.cells #[.slice none 0 0, .int .i64 r, .int .i64 l, .int .i64 k] 24)) := ⟨heap_alloc_new _ _, World.ownsRow_nil _ _ _ _, (Below.refl _ _).alloc (Nat.le_refl _) _⟩
      have HAB := Lib.hid hAB
      have HMM := Lib.hid hm
      clear hAB b3 X4 W4 z0 z1 z2 z3 y0 y1 y2 y3 HX2 HW2 HP2 q0 hm hwr hm0 hm00 hz1 hg2
      go_loopw [3, 35] (fun _ iv wr => ∃ (j : Nat) (A : Option Addr) (c : Nat) (xs : List Ins), j ≤ n ∧ iv = .int .i64 (j : Int) ∧ Hid ((ls.take j).map parseM = xs.map some) ∧ Hid (AB w3 A j c r l k xs wr)) (fun _ iv _ => n - (intOf iv).toNat)
      case atStart => exact ⟨0, none, 0, [], by omega, rfl, Lib.hid (by simp), HAB⟩
      case round =>
        obtain ⟨j, A, c, xs, hj, rfl, HM, HB⟩ := hrel
        clear HAB
        have HX := Lib.hid ((HB.out.be.block _ hg3).trans HX3.out)
        have HW := Lib.hid (HW3.out.trans (HB.out.be.mono (Nat.le_of_lt hg3)))
        by_cases hlt : j < n
        · have hji : (j : Int) < (n : Int) := by omega
          have hjl : j < ls.length := by rw [HN.out]; exact hlt
          have hjp : 1 + j < ps.length := by rw [HPN.out]; omega
          have q1 := cells_str ((HB.out.be.block _ hg4).trans HP3.out) hjp
          have hxe : ps[1 + j] = ls[j] := by
            have := HPS.out
            simp only [this, Nat.add_comm 1 j, List.getElem_cons_succ]
            rw [List.getElem_append_left hjl]
          have hxl := HPLE.out _ (List.getElem_mem hjp)
          rw [hxe] at q1 hxl
          have HST : Hid (ls = ls.take j ++ ls[j] :: ls.drop (j + 1)) := Lib.hid (by rw [← List.drop_eq_getElem_cons hjl, List.take_append_drop])
          have HTK : Hid (ls.take (j + 1) = ls.take j ++ [ls[j]]) := Lib.hid (List.take_succ_eq_append_getElem hjl)
          generalize ls[j] = x at *
          clear hxe hjl hjp
          go_wp2_with fail
          refine (parse_c x _ (by omega)).mono ?_; rintro e w5 ⟨rfl, b5⟩
          cases hpm : parseM x with
          | none =>
            have HN : Hid (parseA s = (zC, j + 2)) := Lib.hid (by
              have h1 := parseLs_app (x :: ls.drop (j + 1)) (ls.take j) xs 2 HM.out
              rw [← HST.out] at h1
              rw [HPA.out, h1]
              simp only [parseLs, hpm]
              rw [List.length_take, Nat.min_eq_left (by rw [HN.out]; omega), Nat.add_comm])
            clear hpm
            have X4 := box_next (box_next HX.out b5) ((Below.refl w5.heap.size w5).alloc (Nat.le_refl _) (.cells (insC zI).toArray 29))
            have W4 : Below w.heap.size w (w5.alloc (.cells (insC zI).toArray 29)) := bthen (bthen HW.out b5) ((Below.refl w5.heap.size w5).alloc (Nat.le_refl _) _)
            unfold RetI insV insC zI zV at *
            simp only at *
            obtain ⟨z0, z1, z2, z3⟩ := cells4d X4
            obtain ⟨y0, y1, y2, y3⟩ := frozen4d X4
            go_wp2_with fail
            refine bodyPost_ret (v := .tuple #[cdV none 0 0 0 0 0, .int .i64 ((j + 2) : Nat)]) (by simp [results, Tryd.results9, go_sem, cdV, z0, z1, z2, z3]) rfl ?_
            refine ⟨retA_none HN.out _, ?_⟩
            have := W4
            repeat (first | (with_reducible exact Below.refl _ _) | (with_reducible assumption) | refine Below.setCell ?_ (by simp <;> omega) _ | refine Below.alloc ?_ (by simp <;> omega) _ | refine Below.drew ?_)
          | some y =>
            have HM2 : Hid ((ls.take (j + 1)).map parseM = (xs ++ [y]).map some) := Lib.hid (by rw [HTK.out, List.map_append, HM.out, List.map_append, List.map_cons, List.map_nil, hpm]; rfl)
            clear hpm q1
            have hB6 := HB.out.next (b5.trans ((Below.refl w5.heap.size w5).alloc (Nat.le_refl _) (.cells (insC y).toArray 29) |>.mono b5.size))
            have hY : (w5.alloc (.cells (insC y).toArray 29)).heap[w5.heap.size]? = some (.cells (insC y).toArray 29 (0, 0)) := heap_alloc_new _ _
            unfold RetI insV
            unfold insC at hB6 hY ⊢
            obtain ⟨i0, i1, i2, i3, i4, i5, i6, i7⟩ := cells8c hY
            have HB6 := Lib.hid hB6
            obtain ⟨x0, x1, x2, x3⟩ := cells4d hB6.bx
            clear hB6
            simp only
            go_wp2_with (at_builtin; refine wpList_app rfl (.tmp 51) (.tmp 53) insE rfl (w3.heap.size + 1) (xs.flatMap insC) rfl ((HB6.out.next ((Below.refl _ _).alloc (Nat.le_refl _) _)).ow) rfl (insC y) (Rd.made _ (insC y) rfl (by simp)) (InsD.one y _ rfl) (by unfold maxLen; omega) (by omega) (by have := HB6.out.lt; simp at this ⊢; omega) ?_; intro A3 c3 w7 o7 g7 _; have hb7 := ((HB6.out.next ((Below.refl _ _).alloc (Nat.le_refl _) _)).app g7).1; have c7 := (cells4d hb7).1; have f7 := (frozen4d hb7).1)
            go_roundw
            case rel => exact ⟨j + 1, A3, c3, xs ++ [y], by omega, by go_num, HM2, Lib.hid ((HB6.out.next ((Below.refl _ _).alloc (Nat.le_refl _) _)).put g7 (by rw [List.flatMap_append]; simpa using o7))⟩
            case measure => simp [intOf]; omega
        · obtain rfl : j = n := by omega
          have hM := HM.out
          rw [List.take_of_length_le (by rw [HN.out]; omega)] at hM
          have h1 := parseLs_app [] ls xs 2 hM
          rw [List.append_nil] at h1
          have HPB : Hid (parseA s = if tl = [] then (⟨r, l, k, xs⟩, 0) else (zC, n1 + 1)) := Lib.hid (by
            rw [HPA.out, h1, HN.out, ← hn1']; simp [parseLs])
          have hjp : n1 < ps.length := by rw [HPN.out]; omega
          have q1 := cells_str ((HB.out.be.block _ hg4).trans HP3.out) hjp
          have hxe : ps[n1] = tl := by
            have := HPS.out
            simp only [this, ← hn1', List.getElem_cons_succ]
            rw [List.getElem_append_right (by rw [HN.out]; omega)]
            simp [HN.out]
          rw [hxe] at q1
          obtain ⟨z0, z1, z2, z3⟩ := cells4d HX.out
          obtain ⟨y0, y1, y2, y3⟩ := frozen4d HX.out
          obtain ⟨x0, x1, x2, x3⟩ := cells4d HB.out.bx
          have W4 := HW.out
          have hji : ¬ (j : Int) < (j : Int) := by omega
          have hn1l : n1 ≤ 100001 := by omega
          have hn1m : n1 < m := by have := HMM.out; omega
          have hn1mi : (n1 : Int) < (m : Int) := by omega
          clear hM h1 hjp hxe hlt
          cases tl with
          | nil =>
            have HPC : Hid (parseA s = (⟨r, l, k, xs⟩, 0)) := Lib.hid (by rw [HPB.out, if_pos rfl])
            go_wp2_with fail
            refine bodyPost_ret (v := .tuple #[cdV A j c r l k, .int .i64 0]) (by simp [results, Tryd.results9, go_sem, cdV, z0, z1, z2, z3]) rfl ?_
            refine ⟨⟨A, j, c, by rw [HPC.out]; rfl, ?_⟩, ?_⟩
            · rw [HPC.out]
              have hb : w.heap.size < w3.heap.size + 1 := by omega
              exact IRow.own (own_setA (own_setA (own_setA (own_setA HB.out.ow _ hb) _ hb) _ hb) _ hb)
            · repeat (first | (with_reducible exact Below.refl _ _) | (with_reducible assumption) | refine Below.setCell ?_ (by simp <;> omega) _ | refine Below.alloc ?_ (by simp <;> omega) _ | refine Below.drew ?_)
          | cons b tl =>
            have HN : Hid (parseA s = (zC, n1 + 1)) := Lib.hid (by rw [HPB.out, if_neg (by simp)])
            go_wp2_with fail
            refine bodyPost_ret (v := .tuple #[cdV none 0 0 0 0 0, .int .i64 ((n1 + 1) : Nat)]) (by simp [results, Tryd.results9, go_sem, cdV, z0, z1, z2, z3]) rfl ?_
            refine ⟨retA_none HN.out _, ?_⟩
            have := W4
            repeat (first | (with_reducible exact Below.refl _ _) | (with_reducible assumption) | refine Below.setCell ?_ (by simp <;> omega) _ | refine Below.alloc ?_ (by simp <;> omega) _ | refine Below.drew ?_)
end Go.Proofs.YtpodniljpinigaaDoor.C
