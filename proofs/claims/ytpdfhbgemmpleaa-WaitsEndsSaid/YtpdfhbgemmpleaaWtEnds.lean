/- What WaitsEnds needs: without a round nobody is stuck, in plain Lean; law22's without. -/
import Derived.Test.YtpdfhbgemmpleaaWtOpen
namespace Go.Proofs.Ytpdfhbgemmpleaa.T
open Go.RowKit

theorem max_of {R : Int → Int → Prop} (ht : ∀ a b c, R a b → R b c → R a c) (hi : ∀ a, ¬ R a a) : ∀ (S : List Int), S ≠ [] → ∃ m ∈ S, ∀ z ∈ S, ¬ R m z
  | [], h => absurd rfl h
  | x :: S, _ => by
    by_cases hS : S = []
    · subst hS
      exact ⟨x, by simp, fun z hz => by simp at hz; subst hz; exact hi _⟩
    · obtain ⟨m, hm, hz⟩ := max_of ht hi S hS
      by_cases h : R m x
      · refine ⟨x, by simp, fun z hzz k => ?_⟩
        rcases List.mem_cons.1 hzz with rfl | hzz
        · exact hi _ k
        · exact hz z hzz (ht _ _ _ h k)
      · refine ⟨m, by simp [hm], fun z hzz k => ?_⟩
        rcases List.mem_cons.1 hzz with rfl | hzz
        · exact h k
        · exact hz z hzz k
theorem no_stuck {L : Gr} (h : ∀ p ∈ L, ∀ y, ¬ roundP L p.1 y) (x : Int) : ¬ stuckP L x := by
  rintro ⟨hne, hno⟩
  have hirr : ∀ a, ¬ Reach (forE L) a a := fun a ha => by
    rcases forE_in L a with e | e
    · exact ha.ne e
    · exact h _ e a ⟨ha, ha⟩
  have hmem : ∀ y, y ∈ (allE L).filter (reachB (forE L) x) ↔ Reach (forE L) x y := fun y => by
    rw [List.mem_filter, reachB_iff]
    exact ⟨fun h => h.2, fun h => ⟨h.inAll, h⟩⟩
  obtain ⟨y, hy⟩ := List.exists_mem_of_ne_nil _ hne
  obtain ⟨m, hm, hz⟩ := max_of (R := Reach (forE L)) (fun a b c h k => h.trans k) hirr ((allE L).filter (reachB (forE L) x)) (List.ne_nil_of_mem ((hmem y).2 (.one hy)))
  have hxm := (hmem m).1 hm
  by_cases e : forE L m = []
  · exact hno m ⟨.inl hxm, e⟩
  · obtain ⟨z, hz2⟩ := List.exists_mem_of_ne_nil _ e
    exact hz z ((hmem z).2 (.more hxm hz2)) (.one hz2)
theorem GOk.filter {L : Gr} (h : GOk L) (f : Int × List Int → Bool) : GOk (L.filter f) :=
  ⟨Nat.le_trans (List.length_filter_le _ _) h.n, fun p hp => h.m p (List.mem_filter.1 hp).1, fun p hp => h.w p (List.mem_filter.1 hp).1, fun p hp => h.e p (List.mem_filter.1 hp).1⟩
theorem filter_less {L : Gr} {a v : Int} (h : roundP L a v) : (L.filter fun p => p.1 != v).length < L.length := by
  rcases forE_in L v with e | e
  · exact absurd e h.2.ne
  · have hle := List.length_filter_le (fun p : Int × List Int => p.1 != v) L
    have hne : (L.filter fun p => p.1 != v).length ≠ L.length := fun e2 => by
      have := List.length_filter_eq_length_iff.1 e2 _ e
      simp at this
    omega
theorem last_mem {l : List Int} (h : l ≠ []) : lastI l ∈ l := by
  unfold lastI
  have hp := List.length_pos_iff.2 h
  rw [List.getD_eq_getElem?_getD, List.getElem?_eq_getElem (by omega)]
  exact List.getElem_mem _
theorem last_ne {l : List Int} (h : l.Pairwise (· < ·)) (h1 : 1 < l.length) : lastI l ≠ l[0]'(by omega) := by
  have := List.pairwise_iff_getElem.1 h 0 (l.length - 1) (by omega) (by omega) (by omega)
  unfold lastI
  rw [List.getD_eq_getElem?_getD, List.getElem?_eq_getElem (by omega)]
  show l[l.length - 1] ≠ _
  omega
theorem grow_own {w0 w : World} {A : Option Addr} {n c : Nat} {L : Gr} {xs : List Value} {base : Nat} (b : Below w0.heap.size w0 w) (h : w.ownsRow base 29 2 (.slice A n c) n xs) (r : Reps (WtC w0) L xs) : GRow w A n c L :=
  ⟨⟨xs, Rd.of_own h, r.imp (WtC.next b)⟩, own_capN h⟩
set_option maxHeartbeats 1000000 in
set_option maxRecDepth 100000 in
theorem without_any (A : Option Addr) (n c : Nat) (L : Gr) (v : Int) (w : World) (h : GRow w A n c L) (hn : n ≤ 40) :
    Calls Try.prog 17 #[.slice A n c, .int .i64 v] w fun e w' => ∃ A' n' c', e = .returned (.slice A' n' c') ∧ GRow w' A' n' c' (L.filter fun p => p.1 != v) ∧ Below w.heap.size w w' := by
  have HG := Lib.hid h
  have hl := h.len
  have HL := Lib.hid hl
  clear h hl
  go_enter Try.func17, Try.ntmps17
  go_wp2_with fail
  go_loopw [5, 10] (fun ov iv wr => ∃ (j : Nat) (B : Option Addr) (q d : Nat), j ≤ n ∧ q ≤ j ∧ iv = .int .i64 (j : Int) ∧ ov = .slice B q d ∧ Hid (∃ xs, wr.ownsRow w.heap.size 29 2 (.slice B q d) q xs ∧ Reps (WtC w) ((L.take j).filter fun p => p.1 != v) xs) ∧ Hid (Below w.heap.size w wr)) (fun _ iv _ => n - (intOf iv).toNat)
  case atStart => exact ⟨0, none, 0, 0, by omega, by omega, rfl, rfl, Lib.hid ⟨[], World.ownsRow_nil _ _ _ _, rfl⟩, Lib.hid (Below.refl _ _)⟩
  case round =>
    obtain ⟨j, B, q, d, hj, hqj, rfl, rfl, HO, HB⟩ := hrel
    by_cases hlt : j < n
    · have hji : (j : Int) < (n : Int) := by omega
      have hjl : j < L.length := by rw [HL.out]; exact hlt
      obtain ⟨b1, off, A1, n1, c1, rfl, hbl, hr1, hc⟩ := HG.out.at hjl
      obtain ⟨q0, q1⟩ := hc wr HB.out
      have HTK : Hid ((L.take (j + 1)).filter (fun p => p.1 != v) = ((L.take j).filter fun p => p.1 != v) ++ if L[j].1 != v then [L[j]] else []) := Lib.hid (by
        rw [List.take_succ_eq_append_getElem hjl, List.filter_append]
        simp [List.filter_cons])
      have HR1 := Lib.hid hr1
      clear hc hr1
      generalize L[j] = p at *
      obtain ⟨p1, p2⟩ := p
      dsimp only at *
      have hX := heap_alloc_new wr (.cells #[.int .i64 p1, .slice A1 n1 c1] 29)
      have y0 : (wr.alloc (.cells #[.int .i64 p1, .slice A1 n1 c1] 29)).cell? ⟨wr.heap.size, 0, none⟩ = some (.int .i64 p1) := by rw [Lib.cell_of_heap hX]; rfl
      have y1 : (wr.alloc (.cells #[.int .i64 p1, .slice A1 n1 c1] 29)).cell? ⟨wr.heap.size, 1, none⟩ = some (.slice A1 n1 c1) := by rw [Lib.cell_of_heap hX]; rfl
      obtain ⟨xs, ox, rx⟩ := HO.out
      have BX := bsz wr (.cells #[.int .i64 p1, .slice A1 n1 c1] 29)
      have HB1 := Lib.hid (bthen HB.out BX)
      have OX := Lib.hid (own_below ox BX)
      have RX := Lib.hid rx
      clear hX ox rx BX HO
      cases hne : (p1 != v) with
      | false =>
        rw [hne] at HTK
        go_wp2_with fail
        go_roundw
        case rel => exact ⟨j + 1, B, q, d, by omega, by omega, by go_num, rfl, Lib.hid ⟨xs, OX.out, by rw [HTK.out]; simpa using RX.out⟩, HB1⟩
        case measure => simp [intOf]; omega
      | true =>
        rw [hne] at HTK
        have OX2 := Lib.hid (OX.out.alloc (.cells #[.int .i64 p1, .slice A1 n1 c1] 29))
        have HB2 := Lib.hid (bthen HB1.out (bsz _ (.cells #[.int .i64 p1, .slice A1 n1 c1] 29)))
        have hsz := HB.out.size
        go_wp2_with (at_builtin; refine wpList_app rfl (.tmp 18) (.tmp 20) wtE rfl w.heap.size xs rfl OX2.out rfl [.int .i64 p1, .slice A1 n1 c1] (Rd.made _ [.int .i64 p1, .slice A1 n1 c1] rfl (by simp)) (by simp [Value.oneCell']) (by unfold maxLen; omega) (by omega) (by simp; omega) ?_; intro A5 c5 w5 o5 g5 _; have HO5 := Lib.hid o5; have HB5 := Lib.hid (below_app HB2.out OX2.out g5 (by simp; omega)); clear o5 g5)
        go_roundw
        case rel => exact ⟨j + 1, A5, q + 1, c5, by omega, by omega, by go_num, rfl, Lib.hid ⟨_, HO5.out, by rw [HTK.out]; exact RX.out.append ⟨_, [], rfl, ⟨_, _, _, rfl, HR1.out⟩, rfl⟩⟩, HB5⟩
        case measure => simp [intOf]; omega
    · obtain rfl : j = n := by omega
      have hG : GRow wr B q d (L.filter fun p => p.1 != v) := by
        obtain ⟨xs, ox, rx⟩ := HO.out
        rw [List.take_of_length_le (by rw [HL.out]; exact Nat.le_refl _)] at rx
        exact grow_own HB.out ox rx
      have HG2 := Lib.hid hG
      clear hG HO
      go_wp2_with fail
      go_ret
      exact ⟨_, _, _, rfl, HG2.out, HB.out⟩
end Go.Proofs.Ytpdfhbgemmpleaa.T
