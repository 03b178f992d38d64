/- law22's row: waits out of two rows of numbers. -/
import Derived.Test.YtpdfhbgemmpleaaWtLives
namespace Go.Proofs.Ytpdfhbgemmpleaa.T
open Go.RowKit

theorem wtE : Elem Try.prog 25 29 2 32 (.agg #[.int .i64 0, .slice none 0 0]) := by
  obtain ⟨i, hi, h1, h2, h3⟩ := info_parts (show (Try.prog.info? 29).map (fun i => (i.zero, i.size, i.bytes)) = some (some (.agg #[.int .i64 0, .slice none 0 0]), 2, 32) by kernel_rfl)
  exact ⟨Try.underlying25, i, hi, h1, h2, h3, rfl, by omega⟩
theorem nsE : Elem Try.prog 23 22 1 24 (.slice none 0 0) := by
  obtain ⟨i, hi, h1, h2, h3⟩ := info_parts (show (Try.prog.info? 22).map (fun i => (i.zero, i.size, i.bytes)) = some (some (.slice none 0 0), 1, 24) by kernel_rfl)
  exact ⟨Try.underlying23, i, hi, h1, h2, h3, rfl, by omega⟩
theorem own_ne {w : World} {base base' e e' size size' n n' : Nat} {v v' : Value} {xs xs' : List Value} (h : w.ownsRow base e size v n xs) (h' : w.ownsRow base' e' size' v' n' xs') (hne : e ≠ e') : v.ownBlock = none ∨ v.ownBlock ≠ v'.ownBlock := by
  rcases h.2 with ⟨rfl, _⟩ | ⟨g, cap, cur, rfl, _, hg, _⟩
  · exact .inl rfl
  · right
    rcases h'.2 with ⟨rfl, _⟩ | ⟨g', cap', cur', rfl, _, hg', _⟩
    · simp [Value.ownBlock]
    · intro e2
      simp [Value.ownBlock] at e2
      subst e2
      rw [hg] at hg'
      injection hg' with hg'
      injection hg' with _ e3
      exact hne e3
theorem NRow.take {w : World} {A : Option Addr} {n c : Nat} {l : List Int} (h : NRow w A n c l) {k : Nat} (hk : k ≤ n) : NRow w A k c (l.take k) := by
  have hl := h.len
  refine ⟨⟨by simp; omega, fun hp => ?_⟩, Nat.le_trans hk h.n⟩
  simp at hp
  obtain ⟨b, off, e, hb, hc⟩ := h.rd.2 (by simp; omega)
  refine ⟨b, off, e, hb, fun j hj => ?_⟩
  simp at hj
  rw [hc j (by simp; omega), iv_get (by omega), iv_get (by simp; omega)]
  simp
/-- What is known of what law22's row gives. -/
structure RowOk (L : Gr) : Prop where
  n : L.length ≤ 20
  m : ∀ p ∈ L, p.2.length ≤ 10
  w : ∀ p ∈ L, wf p.1
  e : ∀ p ∈ L, ∀ y ∈ p.2, wf y
  nd : (L.map (·.1)).Nodup
theorem RowOk.ok {L : Gr} (h : RowOk L) : GOk L := ⟨by have := h.n; omega, fun p hp => by have := h.m p hp; omega, h.w, h.e⟩
/-- The three rows that grow. -/
structure R3 (w0 w : World) (A1 A2 A3 : Option Addr) (c1 c2 c3 k : Nat) (L : Gr) : Prop where
  len : L.length = k
  o1 : ∃ xs, w.ownsRow w0.heap.size 29 2 (.slice A1 k c1) k xs ∧ Reps (WtC w0) L xs
  o2 : w.ownsRow w0.heap.size 3 1 (.slice A2 k c2) k (iv (L.map (·.1)))
  o3 : ∃ xs, w.ownsRow w0.heap.size 22 1 (.slice A3 k c3) k xs ∧ Reps (NsC w0) (L.map (·.2)) xs
  b : Below w0.heap.size w0 w
theorem R3.rows {w0 w : World} {A1 A2 A3 : Option Addr} {c1 c2 c3 k : Nat} {L : Gr} (h : R3 w0 w A1 A2 A3 c1 c2 c3 k L) : GRow w A1 k c1 L ∧ PR w A2 k c2 A3 k c3 L := by
  obtain ⟨x1, o1, r1⟩ := h.o1
  obtain ⟨x3, o3, r3⟩ := h.o3
  exact ⟨⟨⟨x1, Rd.of_own o1, r1.imp (WtC.next h.b)⟩, own_capN o1⟩, NRow.own h.o2, ⟨⟨x3, Rd.of_own o3, r3.imp (NsC.next h.b)⟩, own_capN o3⟩⟩
theorem R3.drew {w0 w : World} {A1 A2 A3 : Option Addr} {c1 c2 c3 k : Nat} {L : Gr} (h : R3 w0 w A1 A2 A3 c1 c2 c3 k L) : R3 w0 w.drew A1 A2 A3 c1 c2 c3 k L := ⟨h.len, h.o1, h.o2, h.o3, h.b.drew⟩
theorem RowOk.add {L : Gr} (h : RowOk L) {x : Int} {f : List Int} (hx : wf x) (hf : ∀ y ∈ f, wf y) (hl : f.length ≤ 10) (hn : L.length < 20) (hno : x ∉ L.map (·.1)) : RowOk (L ++ [(x, f)]) := by
  refine ⟨by simp; omega, fun p hp => ?_, fun p hp => ?_, fun p hp => ?_, ?_⟩
  · rcases List.mem_append.1 hp with hp | hp
    · exact h.m p hp
    · rw [List.mem_singleton] at hp; subst hp; exact hl
  · rcases List.mem_append.1 hp with hp | hp
    · exact h.w p hp
    · rw [List.mem_singleton] at hp; subst hp; exact hx
  · rcases List.mem_append.1 hp with hp | hp
    · exact h.e p hp
    · rw [List.mem_singleton] at hp; subst hp; exact hf
  · rw [List.map_append, List.nodup_append]
    exact ⟨h.nd, by simp, fun a ha b hb e => by simp at hb; subst hb; exact hno (e ▸ ha)⟩
set_option maxHeartbeats 2000000 in
set_option maxRecDepth 100000 in
theorem row_any (A A' : Option Addr) (n c n' c' : Nat) (whos : List Int) (fors : List (List Int)) (w : World) (h : NRow w A n c whos) (h' : FRow w A' n' c' fors) (hw : ∀ x ∈ whos, wf x) (hf : ∀ f ∈ fors, ∀ y ∈ f, wf y) :
    Calls Try.prog 7 #[.slice A n c, .slice A' n' c'] w fun e w' => ∃ A1 A2 A3 c1 c2 c3 k L, e = .returned (.tuple #[.slice A1 k c1, .slice A2 k c2, .slice A3 k c3]) ∧ R3 w w' A1 A2 A3 c1 c2 c3 k L ∧ RowOk L := by
  have HN := Lib.hid h
  have HF := Lib.hid h'
  have hl := h.len
  have hl' := h'.len
  have HL := Lib.hid hl
  have HL' := Lib.hid hl'
  have HW := Lib.hid hw
  have HY := Lib.hid hf
  clear h h' hl hl' hw hf
  go_enter Try.func7, Try.ntmps7
  go_wp2_with fail
  go_loopw [7, 8, 9, 10, 11, 12, 13, 15, 18] (fun v7 v8 v9 _ _ _ _ _ iv wr => ∃ (j : Nat) (A1 A2 A3 : Option Addr) (c1 c2 c3 k : Nat) (L : Gr), j ≤ n ∧ j ≤ 20 ∧ k ≤ j ∧ iv = .int .i64 (j : Int) ∧ v7 = .slice A1 k c1 ∧ v8 = .slice A2 k c2 ∧ v9 = .slice A3 k c3 ∧ Hid (R3 w wr A1 A2 A3 c1 c2 c3 k L) ∧ Hid (RowOk L)) (fun _ _ _ _ _ _ _ _ iv _ => n - (intOf iv).toNat)
  case atStart => exact ⟨0, none, none, none, 0, 0, 0, 0, [], by omega, by omega, by omega, rfl, rfl, rfl, rfl, Lib.hid ⟨rfl, ⟨[], World.ownsRow_nil _ _ _ _, rfl⟩, World.ownsRow_nil _ _ _ _, ⟨[], World.ownsRow_nil _ _ _ _, rfl⟩, Below.refl _ _⟩, Lib.hid ⟨by simp, by simp, by simp, by simp, by simp⟩⟩
  case round =>
    obtain ⟨j, A1, A2, A3, c1, c2, c3, k, L, hj, hj20, hkj, rfl, rfl, rfl, rfl, HR, HO⟩ := hrel
    by_cases hlt : j < n
    · have hji : (j : Int) < (n : Int) := by omega
      have hjl : j < whos.length := by rw [HL.out]; exact hlt
      obtain ⟨b1, off, rfl, hbl, hc⟩ := HN.out.at hjl
      have hcell := hc wr HR.out.b
      have HX := Lib.hid (HW.out _ (List.getElem_mem hjl))
      clear hc
      generalize whos[j] = x at *
      by_cases h20 : 20 ≤ j
      · have d1 : decide ((j : Int) ≥ 20) = true := by simp; omega
        go_wp2_with fail
        go_ret3
        exact ⟨_, _, _, _, _, _, _, L, rfl, HR.out, HO.out⟩
      · have d1 : decide ((j : Int) ≥ 20) = false := by simp; omega
        by_cases hjn : n' ≤ j
        · have d2 : decide ((j : Int) ≥ (n' : Int)) = true := by simp; omega
          go_wp2_with fail
          go_ret3
          exact ⟨_, _, _, _, _, _, _, L, rfl, HR.out, HO.out⟩
        · have d2 : decide ((j : Int) ≥ (n' : Int)) = false := by simp; omega
          have hjn2 : j < n' := by omega
          have hjn2i : (j : Int) < (n' : Int) := by omega
          have hjl2 : j < fors.length := by rw [HL'.out]; exact hjn2
          obtain ⟨b2, off2, A4, n4, c4, rfl, hbl2, hr4, hc2⟩ := HF.out.at hjl2
          have HC2 := Lib.hid hc2
          have hcell2 := hc2 wr HR.out.b
          have HY4 := Lib.hid (HY.out _ (List.getElem_mem hjl2))
          have HR4 := Lib.hid hr4
          clear hc2 hr4 
          generalize fors[j] = f at *
          obtain ⟨m, hm⟩ : ∃ m : Nat, min n4 10 = m := ⟨_, rfl⟩
          have hmm : min (n4 : Int) 10 = (m : Int) := by omega
          have hm4 : m ≤ n4 := by omega
          have hmc : m ≤ c4 := by have := HR4.out.n; omega
          have hm10 : m ≤ 10 := by omega
          clear hm
          go_wp2_with fail
          refine wp_region_sched [(0, true), (1, true), (2, true), (3, true), (4, true), (5, true), (6, true), (7, true), (8, true), (9, true), (10, true), (11, true)] (by kernel_rfl) (by kernel_rfl) (fun _ _ d _ _ h => by cases d <;> exact h) ?_
          refine swith (fun W hW => (HC2.out W (HR.out.b.drew.trans (hW.out.mono HR.out.b.size)))) (fun q1 => ?_)
          repeat (first | (refine sreadx rfl rfl ?_; apply Exists.intro; apply And.intro; (· (intro W hW; first | (go_simp; done) | (go_simp; with_reducible rfl) | (go_simp; rw [if_neg (by omega)]; done) | (go_simp; rw [if_neg (by omega)]; with_reducible rfl))); simp only [Act.put, List.setIfInBounds_toArray, List.set_cons_zero, List.set_cons_succ]) | (refine sskip rfl rfl ?_; simp only [Act.put, List.setIfInBounds_toArray, List.set_cons_zero, List.set_cons_succ]))
          refine sdone ?_
          go_wp2_with fail
          have HR1 := Lib.hid HR.out.drew
          have HM := Lib.hid (HR4.out.take hm4)
          clear hmm hmc q1 HR hcell hcell2 HC2
          generalize wr.drew = W1 at *
          go_loop [13, 15, 44] (fun fv _ iv => ∃ i : Nat, i ≤ k ∧ iv = .int .i64 (i : Int) ∧ fv = .bool (decide (x ∈ (L.map (·.1)).take i))) (fun _ _ iv => k - (intOf iv).toNat)
          case atStart => exact ⟨0, by omega, rfl, by simp⟩
          case round =>
            obtain ⟨i, hi, rfl, rfl⟩ := hrel
            have hlk := HR1.out.len
            by_cases hik : i < k
            · have hiki : (i : Int) < (k : Int) := by omega
              have hil : i < (L.map (·.1)).length := by simp; omega
              obtain ⟨b5, off5, rfl, hbl5, hc5⟩ := (NRow.own HR1.out.o2).at hil
              have hcell5 := hc5 W1 (Below.refl _ _)
              have hd : (decide (x ∈ (L.map (·.1)).take (i + 1))) = (decide (x ∈ (L.map (·.1)).take i) || ((L.map (·.1))[i] == x)) := by
                rw [List.take_succ_eq_append_getElem hil]
                by_cases hx : x ∈ (L.map (·.1)).take i
                · simp [hx]
                · by_cases h2 : (L.map (·.1))[i] = x
                  · simp [h2]
                  · simp only [List.mem_append, List.mem_singleton, hx, false_or, decide_false, Bool.false_or]
                    rw [decide_eq_false (fun e => h2 e.symm)]
                    simpa using h2
              have HD := Lib.hid hd
              clear hc5 hd
              generalize (L.map (·.1))[i] = y at *
              cases hf : decide (x ∈ (L.map (·.1)).take i) with
              | true =>
                rw [hf] at HD
                clear hf
                go_wp2_with fail
                go_round
                case rel => exact ⟨i + 1, by omega, by go_num, by rw [HD.out]; rfl⟩
                case measure => simp [intOf]; omega
              | false =>
                rw [hf] at HD
                clear hf
                go_wp2_with fail
                go_round
                case rel => exact ⟨i + 1, by omega, by go_num, by rw [HD.out]; rfl⟩
                case measure => simp [intOf]; omega
            · obtain rfl : i = k := by omega
              rw [List.take_of_length_le (by simp; omega)]
              by_cases hx : x ∈ L.map (·.1)
              · rw [decide_eq_true hx]
                clear hx
                go_wp2_with fail
                go_round
                case rel => exact ⟨j + 1, A1, A2, A3, c1, c2, c3, i, L, by omega, by omega, by omega, by go_num, rfl, rfl, rfl, HR1, HO⟩
                case measure => simp [intOf]; omega
              · rw [decide_eq_false hx]
                have HNX := Lib.hid hx
                clear hx
                obtain ⟨x1, o1, r1⟩ := HR1.out.o1
                obtain ⟨x3, o3, r3⟩ := HR1.out.o3
                have hsz := HR1.out.b.size
                have O1 := Lib.hid (o1.alloc (.cells #[.int .i64 x, .slice A4 m c4] 29))
                have O2 := Lib.hid (HR1.out.o2.alloc (.cells #[.int .i64 x, .slice A4 m c4] 29))
                have O3 := Lib.hid (o3.alloc (.cells #[.int .i64 x, .slice A4 m c4] 29))
                have B1 := Lib.hid (bthen HR1.out.b (bsz _ (.cells #[.int .i64 x, .slice A4 m c4] 29)))
                have hj20' : j < 20 := by omega
                clear o1 o3
                go_wp2_with (first
                  | (at_builtin; refine wpList_app rfl (.tmp 57) (.tmp 61) wtE rfl w.heap.size x1 rfl O1.out rfl [.int .i64 x, .slice A4 m c4] (Rd.made _ [.int .i64 x, .slice A4 m c4] rfl (by simp)) (by simp [Value.oneCell']) (by unfold maxLen; omega) (by omega) (by simp; omega) ?_; intro A5 c5 w5 o5 g5 _; have HO5 := Lib.hid (o5.alloc (.cells #[.int .i64 x] 3)); have HP5 := Lib.hid ((O2.out.kept g5 (own_ne O2.out O1.out (by decide))).alloc (.cells #[.int .i64 x] 3)); have HQ5 := Lib.hid ((O3.out.kept g5 (own_ne O3.out O1.out (by decide))).alloc (.cells #[.int .i64 x] 3)); have HB5 := Lib.hid (bthen (below_app B1.out O1.out g5 (by simp; omega)) (bsz _ (.cells #[.int .i64 x] 3))); have hs5 := B1.out.size; have hs5' := g5.size; clear o5 g5)
                  | (at_builtin; refine wpList_app rfl (.tmp 63) (.tmp 65) intE rfl w.heap.size (iv (L.map (·.1))) rfl HP5.out rfl [.int .i64 x] (Rd.made _ [.int .i64 x] rfl (by simp)) (by simp [Value.oneCell']) (by unfold maxLen; omega) (by omega) (by simp; omega) ?_; intro A6 c6 w6 o6 g6 _; have HP6 := Lib.hid (o6.alloc (.cells #[.slice A4 m c4] 22)); have HO6 := Lib.hid ((HO5.out.kept g6 (own_ne HO5.out HP5.out (by decide))).alloc (.cells #[.slice A4 m c4] 22)); have HQ6 := Lib.hid ((HQ5.out.kept g6 (own_ne HQ5.out HP5.out (by decide))).alloc (.cells #[.slice A4 m c4] 22)); have HB6 := Lib.hid (bthen (below_app HB5.out HP5.out g6 (by simp; omega)) (bsz _ (.cells #[.slice A4 m c4] 22))); have hs6' := g6.size; clear o6 g6)
                  | (at_builtin; refine wpList_app rfl (.tmp 67) (.tmp 69) nsE rfl w.heap.size x3 rfl HQ6.out rfl [.slice A4 m c4] (Rd.made _ [.slice A4 m c4] rfl (by simp)) (by simp [Value.oneCell']) (by unfold maxLen; omega) (by omega) (by have := HB6.out.size; simpa using this) ?_; intro A7 c7 w7 o7 g7 _; have HQ7 := Lib.hid o7; have HO7 := Lib.hid (HO6.out.kept g7 (own_ne HO6.out HQ6.out (by decide))); have HP7 := Lib.hid (HP6.out.kept g7 (own_ne HP6.out HQ6.out (by decide))); have HB7 := Lib.hid (below_app HB6.out HQ6.out g7 (by have := HB6.out.size; simpa using this)); clear o7 g7))
                go_round
                case rel => exact ⟨j + 1, A5, A6, A7, c5, c6, c7, i + 1, L ++ [(x, f.take m)], by omega, by omega, by omega, by go_num, rfl, rfl, rfl, Lib.hid ⟨by simp; omega, ⟨_, HO7.out, r1.append ⟨_, [], rfl, ⟨_, _, _, rfl, HM.out⟩, rfl⟩⟩, by rw [List.map_append, iv_append]; exact HP7.out, ⟨_, HQ7.out, by rw [List.map_append]; exact r3.append ⟨_, [], rfl, ⟨_, _, _, rfl, HM.out⟩, rfl⟩⟩, HB7.out⟩, Lib.hid (HO.out.add HX.out (fun y hy => HY4.out y (List.mem_of_mem_take hy)) (by simp; omega) (by omega) HNX.out)⟩
                case measure => simp [intOf]; omega
    · obtain rfl : j = n := by omega
      go_wp2_with fail
      go_ret3
      exact ⟨_, _, _, _, _, _, _, L, rfl, HR.out, HO.out⟩
end Go.Proofs.Ytpdfhbgemmpleaa.T
