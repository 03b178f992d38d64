/- Rows of values in memory; the contracts of LightRow, of slices.Equal at values, of the reference's Same and of schema.Same and PutRow. -/
import Derived.Test.YtpkoijlbbfffiaaValOpen
import Derived.Test.YtpkoijlbbfffiaaValPrint
import Derived.Test.YtpkoijlbbfffiaaValParse
namespace Go.Proofs.Ytpkoijlbbfffiaa.R
open Go.RowKit O V

theorem ValC.size : ∀ (a : Val) vs, ValC a vs → vs.length = 3 := by rintro a vs ⟨rfl, _⟩; rfl
/-- The slice (A, n, c) reads as the values l. -/
def VRow (w : World) (A : Option Addr) (n c : Nat) (l : List Val) : Prop := ∃ xs, Rd w w.heap.size 3 A n xs ∧ Reps ValC l xs ∧ n ≤ c ∧ c ≤ 9223372036854775807
theorem VRow.len {w : World} {A : Option Addr} {n c : Nat} {l : List Val} (h : VRow w A n c l) : l.length = n := by
  obtain ⟨xs, h1, h2, _⟩ := h
  exact h1.len_of ValC.size h2 (by omega)
theorem VRow.cap {w : World} {A : Option Addr} {n c : Nat} {l : List Val} (h : VRow w A n c l) : n ≤ c ∧ c ≤ 9223372036854775807 := by
  obtain ⟨xs, _, _, h3, h4⟩ := h
  exact ⟨h3, h4⟩
theorem VRow.next {w W : World} {A : Option Addr} {n c : Nat} {l : List Val} (h : VRow w A n c l) (b : Below w.heap.size w W) : VRow W A n c l := by
  obtain ⟨xs, h1, h2, h3, h4⟩ := h
  exact ⟨xs, h1.next b, h2, h3, h4⟩
theorem VRow.at_ {w : World} {A : Option Addr} {n c : Nat} {l : List Val} (h : VRow w A n c l) {k : Nat} (hk : k < l.length) : ∃ b off, A = some ⟨b, off, none⟩ ∧ b < w.heap.size ∧ VOk l[k] ∧
    ∀ W, Below w.heap.size w W → W.cell? ⟨b, off + k * 3, none⟩ = some (.int .i64 l[k].k) ∧ W.cell? ⟨b, off + k * 3 + 1, none⟩ = some (.int .i64 l[k].n) ∧ W.cell? ⟨b, off + k * 3 + 2, none⟩ = some (.string ⟨l[k].s.toArray⟩) := by
  obtain ⟨xs, h1, h2, h3, h4⟩ := h
  obtain ⟨b, off, vs, e, hb, ⟨rfl, ho⟩, hc⟩ := h1.elem ValC.size h2 hk (by omega)
  refine ⟨b, off, e, hb, ho, fun W bW => ⟨?_, ?_, ?_⟩⟩
  · exact (bW.cell (p := ⟨b, off + k * 3 + 0, none⟩) hb).trans (hc 0 (by omega))
  · exact (bW.cell (p := ⟨b, off + k * 3 + 1, none⟩) hb).trans (hc 1 (by omega))
  · exact (bW.cell (p := ⟨b, off + k * 3 + 2, none⟩) hb).trans (hc 2 (by omega))
def lightV (v : Val) : Bool := decide ((v.s.length : Int) ≤ 100)
def lightR (l : List Val) : Bool := decide (l.length ≤ 20) && l.all lightV
theorem allT_step {α : Type} {p : α → Bool} {l : List α} {k : Nat} (h : k < l.length) (ha : (l.take k).all p = true) : (l.take (k + 1)).all p = p l[k] := by
  rw [List.take_succ_eq_append_getElem h, List.all_append, ha]
  simp
theorem allT_no {α : Type} {p : α → Bool} {l : List α} {k : Nat} (h : k < l.length) (hc : p l[k] = false) : l.all p = false := by
  rw [List.all_eq_false]
  exact ⟨l[k], List.getElem_mem h, by simp [hc]⟩
set_option maxHeartbeats 1000000 in
set_option maxRecDepth 100000 in
theorem lightRow_any (A : Option Addr) (n c : Nat) (l : List Val) (w : World) (h : VRow w A n c l) : Calls Try.prog 56 #[.slice A n c] w fun e w' => e = .returned (.bool (lightR l)) ∧ Below w.heap.size w w' := by
  have hl := h.len
  have hcap := h.cap
  have HV := Lib.hid h
  have HL := Lib.hid hl
  have hn63 : n ≤ 9223372036854775807 := by omega
  clear h
  by_cases h20 : (n : Int) > 20
  · have d1 : decide ((n : Int) > 20) = true := by simp; omega
    have hr : Hid (lightR l = false) := Lib.hid (by unfold lightR; rw [decide_eq_false (by omega)]; rfl)
    clear hl
    go_enter Try.func56, Try.ntmps56
    go_wp2_with fail
    go_ret
    exact ⟨by rw [hr.out]; rfl, Below.refl _ _⟩
  · have d1 : decide ((n : Int) > 20) = false := by simp; omega
    have hr : Hid (lightR l = l.all lightV) := Lib.hid (by unfold lightR; rw [decide_eq_true (by omega)]; rfl)
    clear hl
    go_enter Try.func56, Try.ntmps56
    go_wp2_with fail
    go_loopw [4, 10] (fun _ i wr => ∃ k : Nat, k ≤ n ∧ i = .int .i64 k ∧ Hid ((l.take k).all lightV = true) ∧ Below w.heap.size w wr) (fun _ i _ => n - (intOf i).toNat)
    case atStart => exact ⟨0, by omega, rfl, Lib.hid (by simp), Below.refl _ _⟩
    case round =>
      obtain ⟨k, hk, rfl, H, hb⟩ := hrel
      by_cases hlt : k < n
      · have hlt' : k < l.length := by rw [HL.out]; exact hlt
        obtain ⟨b, off, rfl, hbl, ho, hc⟩ := HV.out.at_ hlt'
        obtain ⟨c0, c1, c2⟩ := hc wr hb
        have hn := Lib.hid (allT_step hlt' H.out)
        have hno := Lib.hid (allT_no (p := lightV) hlt')
        have hs := ho.s
        unfold maxLen at hs
        generalize l[k] = v at *
        have hsz : (ByteArray.mk v.s.toArray).size = v.s.length := by simp [ByteArray.size]
        by_cases h100 : (v.s.length : Int) > 100
        · have d2 : decide ((v.s.length : Int) > 100) = true := by simp; omega
          have hno' := Lib.hid (hno.out (by unfold lightV; simp; omega))
          go_wp2_with fail
          go_ret
          exact ⟨by rw [hr.out, hno'.out]; rfl, hb.alloc hb.size _⟩
        · have d2 : decide ((v.s.length : Int) > 100) = false := by simp; omega
          go_wp2_with fail
          go_roundw
          case rel => exact ⟨k + 1, by omega, by go_num, Lib.hid (by rw [hn.out]; unfold lightV; simp; omega), hb.alloc hb.size _⟩
          case measure => simp [intOf]; omega
      · obtain rfl : k = n := by omega
        go_wp2_with fail
        go_ret
        refine ⟨?_, hb⟩
        have := H.out
        rw [← HL.out, List.take_length] at this
        rw [hr.out, this]
        rfl
theorem neq_yes {x y : Val} (h : x ≠ y) (w : World) : (binOp .neq 23 (.agg #[.int .i64 x.k, .int .i64 x.n, .string ⟨x.s.toArray⟩]) (.agg #[.int .i64 y.k, .int .i64 y.n, .string ⟨y.s.toArray⟩])).run Try.prog w = .ok (.bool true) w := by
  go_simp
  exact fun h1 h2 h3 => h (Val.same h1 h2 h3)
theorem neq_no (x : Val) (w : World) : (binOp .neq 23 (.agg #[.int .i64 x.k, .int .i64 x.n, .string ⟨x.s.toArray⟩]) (.agg #[.int .i64 x.k, .int .i64 x.n, .string ⟨x.s.toArray⟩])).run Try.prog w = .ok (.bool false) w := by
  go_simp
instance : DecidableEq Val := fun a b => if h : a.k = b.k ∧ a.n = b.n ∧ a.s = b.s then isTrue (Val.same h.1 h.2.1 h.2.2) else isFalse (fun e => h (by subst e; exact ⟨rfl, rfl, rfl⟩))
def sameR (a b : List Val) : Bool := decide (a = b)
theorem sameR_len {a b : List Val} (h : a.length ≠ b.length) : sameR a b = false := by unfold sameR; rw [decide_eq_false]; exact fun e => h (by rw [e])
theorem take_same {α : Type} {a b : List α} {k : Nat} (h1 : k < a.length) (h2 : k < b.length) (h : a.take k = b.take k) (he : a[k] = b[k]) : a.take (k + 1) = b.take (k + 1) := by
  rw [List.take_succ_eq_append_getElem h1, List.take_succ_eq_append_getElem h2, h, he]
theorem at_ne {a b : List Val} {k : Nat} (h1 : k < a.length) (h2 : k < b.length) (he : a[k] ≠ b[k]) : sameR a b = false := by
  unfold sameR; rw [decide_eq_false]; intro e; subst e; exact he rfl
set_option maxHeartbeats 1000000 in
set_option maxRecDepth 100000 in
theorem equal_any (A A' : Option Addr) (n c n' c' : Nat) (a b : List Val) (w : World) (h : VRow w A n c a) (h' : VRow w A' n' c' b) :
    Calls Try.prog 75 #[.slice A n c, .slice A' n' c'] w fun e w' => e = .returned (.bool (sameR a b)) ∧ Below w.heap.size w w' := by
  have hl := h.len
  have hl' := h'.len
  have hcap := h.cap
  have hcap' := h'.cap
  by_cases hne : n = n'
  · subst hne
    have HV := Lib.hid h
    have HV' := Lib.hid h'
    have HL := Lib.hid hl
    have HL' := Lib.hid hl'
    clear h h' hl hl'
    go_enter Try.func75, Try.ntmps75
    go_wp2_with fail
    go_loopw [5, 13] (fun _ i wr => ∃ k : Nat, k ≤ n ∧ i = .int .i64 k ∧ Hid (a.take k = b.take k) ∧ Below w.heap.size w wr) (fun _ i _ => n - (intOf i).toNat)
    case atStart => exact ⟨0, by omega, rfl, Lib.hid (by simp), Below.refl _ _⟩
    case round =>
      obtain ⟨k, hk, rfl, H, hb⟩ := hrel
      by_cases hlt : k < n
      · have hlt' : k < a.length := by rw [HL.out]; exact hlt
        have hlt2 : k < b.length := by rw [HL'.out]; exact hlt
        obtain ⟨b1, off, rfl, hbl, ho, hc⟩ := HV.out.at_ hlt'
        obtain ⟨b2, off2, rfl, hbl2, ho2, hc2⟩ := HV'.out.at_ hlt2
        have HC := Lib.hid hc
        have HC2 := Lib.hid hc2
        have hst := Lib.hid (take_same hlt' hlt2 H.out)
        have hno := Lib.hid (at_ne hlt' hlt2)
        clear hc hc2 ho ho2
        generalize a[k] = x at *
        generalize b[k] = y at *
        have hki : (k : Int) < (n : Int) := by omega
        by_cases he : x = y
        · subst he
          have hst' := Lib.hid (hst.out rfl)
          have qn := fun w => neq_no x w
          go_wp2_with fail
          refine wp_region_sched [(0, true), (1, true), (2, true), (3, true), (4, true), (5, true), (6, true), (7, true), (8, true)] (by kernel_rfl) (by kernel_rfl) (fun _ _ d _ _ h => by cases d <;> exact h) ?_
          refine swith (fun W hW => (HC.out W (hb.drew.trans (hW.out.mono hb.size)))) (fun q1 => ?_)
          refine swith (fun W hW => (HC2.out W (hb.drew.trans (hW.out.mono hb.size)))) (fun q2 => ?_)
          repeat (first | (refine sreadx rfl rfl ?_; apply Exists.intro; apply And.intro; (· (intro W hW; first | (go_simp; done) | (go_simp; with_reducible rfl) | (go_simp; rw [if_neg (by omega)]; done) | (go_simp; rw [if_neg (by omega)]; with_reducible rfl))); simp only [Act.put, List.setIfInBounds_toArray, List.set_cons_zero, List.set_cons_succ]) | (refine sskip rfl rfl ?_; simp only [Act.put, List.setIfInBounds_toArray, List.set_cons_zero, List.set_cons_succ]))
          refine sdone ?_
          go_wp2_with fail
          go_roundw
          case rel => exact ⟨k + 1, by omega, by go_num, hst', hb.drew⟩
          case measure => simp [intOf]; omega
        · have hno' := Lib.hid (hno.out he)
          have qn := fun w => neq_yes he w
          go_wp2_with fail
          refine wp_region_sched [(0, true), (1, true), (2, true), (3, true), (4, true), (5, true), (6, true), (7, true), (8, true)] (by kernel_rfl) (by kernel_rfl) (fun _ _ d _ _ h => by cases d <;> exact h) ?_
          refine swith (fun W hW => (HC.out W (hb.drew.trans (hW.out.mono hb.size)))) (fun q1 => ?_)
          refine swith (fun W hW => (HC2.out W (hb.drew.trans (hW.out.mono hb.size)))) (fun q2 => ?_)
          repeat (first | (refine sreadx rfl rfl ?_; apply Exists.intro; apply And.intro; (· (intro W hW; first | (go_simp; done) | (go_simp; with_reducible rfl) | (go_simp; rw [if_neg (by omega)]; done) | (go_simp; rw [if_neg (by omega)]; with_reducible rfl))); simp only [Act.put, List.setIfInBounds_toArray, List.set_cons_zero, List.set_cons_succ]) | (refine sskip rfl rfl ?_; simp only [Act.put, List.setIfInBounds_toArray, List.set_cons_zero, List.set_cons_succ]))
          refine sdone ?_
          go_wp2_with fail
          go_ret
          exact ⟨by rw [hno'.out]; rfl, hb.drew⟩
      · obtain rfl : k = n := by omega
        go_wp2_with fail
        go_ret
        refine ⟨?_, hb⟩
        have := H.out
        rw [← HL.out, List.take_length, HL.out, ← HL'.out, List.take_length] at this
        rw [this, sameR, decide_eq_true rfl]
        rfl
  · have hr : Hid (sameR a b = false) := Lib.hid (sameR_len (by omega))
    have d1 : ((n : Int) != (n' : Int)) = true := by simp; omega
    have d2 : ((n : Int) == (n' : Int)) = false := by simp; omega
    clear hl hl'
    go_enter Try.func75, Try.ntmps75
    go_wp2_with fail
    go_ret
    exact ⟨by rw [hr.out]; rfl, Below.refl _ _⟩
set_option maxHeartbeats 1000000 in
set_option maxRecDepth 100000 in
theorem rsame_any (A A' : Option Addr) (n c n' c' : Nat) (a b : List Val) (w : World) (h : VRow w A n c a) (h' : VRow w A' n' c' b) :
    Calls Try.prog 60 #[.slice A n c, .slice A' n' c'] w fun e w' => e = .returned (.bool (sameR a b)) ∧ Below w.heap.size w w' := by
  have hl := h.len
  have hl' := h'.len
  have hcap := h.cap
  have hcap' := h'.cap
  by_cases hne : n = n'
  · subst hne
    have HV := Lib.hid h
    have HV' := Lib.hid h'
    have HL := Lib.hid hl
    have HL' := Lib.hid hl'
    clear h h' hl hl'
    go_enter Try.func60, Try.ntmps60
    go_wp2_with fail
    go_loopw [5, 13] (fun _ i wr => ∃ k : Nat, k ≤ n ∧ i = .int .i64 k ∧ Hid (a.take k = b.take k) ∧ Below w.heap.size w wr) (fun _ i _ => n - (intOf i).toNat)
    case atStart => exact ⟨0, by omega, rfl, Lib.hid (by simp), Below.refl _ _⟩
    case round =>
      obtain ⟨k, hk, rfl, H, hb⟩ := hrel
      by_cases hlt : k < n
      · have hlt' : k < a.length := by rw [HL.out]; exact hlt
        have hlt2 : k < b.length := by rw [HL'.out]; exact hlt
        obtain ⟨b1, off, rfl, hbl, ho, hc⟩ := HV.out.at_ hlt'
        obtain ⟨b2, off2, rfl, hbl2, ho2, hc2⟩ := HV'.out.at_ hlt2
        have HC := Lib.hid hc
        have HC2 := Lib.hid hc2
        have hst := Lib.hid (take_same hlt' hlt2 H.out)
        have hno := Lib.hid (at_ne hlt' hlt2)
        clear hc hc2 ho ho2
        generalize a[k] = x at *
        generalize b[k] = y at *
        have hki : (k : Int) < (n : Int) := by omega
        by_cases he : x = y
        · subst he
          have hst' := Lib.hid (hst.out rfl)
          have qn := fun w => neq_no x w
          go_wp2_with fail
          refine wp_region_sched [(0, true), (1, true), (2, true), (3, true), (4, true), (5, true), (6, true), (7, true), (8, true)] (by kernel_rfl) (by kernel_rfl) (fun _ _ d _ _ h => by cases d <;> exact h) ?_
          refine swith (fun W hW => (HC.out W (hb.drew.trans (hW.out.mono hb.size)))) (fun q1 => ?_)
          refine swith (fun W hW => (HC2.out W (hb.drew.trans (hW.out.mono hb.size)))) (fun q2 => ?_)
          repeat (first | (refine sreadx rfl rfl ?_; apply Exists.intro; apply And.intro; (· (intro W hW; first | (go_simp; done) | (go_simp; with_reducible rfl) | (go_simp; rw [if_neg (by omega)]; done) | (go_simp; rw [if_neg (by omega)]; with_reducible rfl))); simp only [Act.put, List.setIfInBounds_toArray, List.set_cons_zero, List.set_cons_succ]) | (refine sskip rfl rfl ?_; simp only [Act.put, List.setIfInBounds_toArray, List.set_cons_zero, List.set_cons_succ]))
          refine sdone ?_
          go_wp2_with fail
          go_roundw
          case rel => exact ⟨k + 1, by omega, by go_num, hst', hb.drew⟩
          case measure => simp [intOf]; omega
        · have hno' := Lib.hid (hno.out he)
          have qn := fun w => neq_yes he w
          go_wp2_with fail
          refine wp_region_sched [(0, true), (1, true), (2, true), (3, true), (4, true), (5, true), (6, true), (7, true), (8, true)] (by kernel_rfl) (by kernel_rfl) (fun _ _ d _ _ h => by cases d <;> exact h) ?_
          refine swith (fun W hW => (HC.out W (hb.drew.trans (hW.out.mono hb.size)))) (fun q1 => ?_)
          refine swith (fun W hW => (HC2.out W (hb.drew.trans (hW.out.mono hb.size)))) (fun q2 => ?_)
          repeat (first | (refine sreadx rfl rfl ?_; apply Exists.intro; apply And.intro; (· (intro W hW; first | (go_simp; done) | (go_simp; with_reducible rfl) | (go_simp; rw [if_neg (by omega)]; done) | (go_simp; rw [if_neg (by omega)]; with_reducible rfl))); simp only [Act.put, List.setIfInBounds_toArray, List.set_cons_zero, List.set_cons_succ]) | (refine sskip rfl rfl ?_; simp only [Act.put, List.setIfInBounds_toArray, List.set_cons_zero, List.set_cons_succ]))
          refine sdone ?_
          go_wp2_with fail
          go_ret
          exact ⟨by rw [hno'.out]; rfl, hb.drew⟩
      · obtain rfl : k = n := by omega
        go_wp2_with fail
        go_ret
        refine ⟨?_, hb⟩
        have := H.out
        rw [← HL.out, List.take_length, HL.out, ← HL'.out, List.take_length] at this
        rw [this, sameR, decide_eq_true rfl]
        rfl
  · have hr : Hid (sameR a b = false) := Lib.hid (sameR_len (by omega))
    have d1 : ((n : Int) != (n' : Int)) = true := by simp; omega
    have d2 : ((n : Int) == (n' : Int)) = false := by simp; omega
    clear hl hl'
    go_enter Try.func60, Try.ntmps60
    go_wp2_with fail
    go_ret
    exact ⟨by rw [hr.out]; rfl, Below.refl _ _⟩
theorem same_any (A A' : Option Addr) (n c n' c' : Nat) (a b : List Val) (w : World) (h : VRow w A n c a) (h' : VRow w A' n' c' b) :
    Calls Try.prog 61 #[.slice A n c, .slice A' n' c'] w fun e w' => e = .returned (.bool (sameR a b)) ∧ Below w.heap.size w w' := by
  go_enter Try.func61, Try.ntmps61
  go_wp2_with fail
  refine (equal_any A A' n c n' c' a b _ h h').mono ?_; rintro e w1 ⟨rfl, b1⟩
  go_wp2_with fail
  go_ret
  exact ⟨rfl, b1⟩
end Go.Proofs.Ytpkoijlbbfffiaa.R
