/- Rows of tokens that are read, but for their places; the contract of the reference's Same. -/
import Derived.Test.YtpodniljpinigaaLexAllP
import Derived.Deep.DeepCutAuto
namespace Go.Proofs.Ytpodniljpinigaa.X
open Go.RowKit O V S

theorem Val.same {x y : Val} (h1 : x.k = y.k) (h2 : x.n = y.n) (h3 : x.s = y.s) : x = y := by cases x; cases y; simp_all
instance : DecidableEq Val := fun a b => if h : a.k = b.k ∧ a.n = b.n ∧ a.s = b.s then isTrue (Val.same h.1 h.2.1 h.2.2) else isFalse (fun e => h (by subst e; exact ⟨rfl, rfl, rfl⟩))
/-- A token but for its place. -/
def core (t : Tk) : Int × List UInt8 × Val := (t.k, t.text, t.v)
def sameT (a b : List Tk) : Bool := decide (a.map core = b.map core)
theorem sameT_iff {a b : List Tk} : sameT a b = true ↔ a.map core = b.map core := by simp [sameT]
theorem sameT_len {a b : List Tk} (h : a.length ≠ b.length) : sameT a b = false := by
  unfold sameT; rw [decide_eq_false]; intro e; apply h; have := congrArg List.length e; simpa using this
theorem core_take {a b : List Tk} {k : Nat} (h1 : k < a.length) (h2 : k < b.length) (h : (a.map core).take k = (b.map core).take k) (he : core a[k] = core b[k]) : (a.map core).take (k + 1) = (b.map core).take (k + 1) := by
  rw [List.take_succ_eq_append_getElem (by simpa using h1), List.take_succ_eq_append_getElem (by simpa using h2), h]
  simp [he]
theorem core_ne {a b : List Tk} {k : Nat} (h1 : k < a.length) (h2 : k < b.length) (he : core a[k] ≠ core b[k]) : sameT a b = false := by
  unfold sameT; rw [decide_eq_false]; intro e
  apply he
  have : (a.map core)[k]'(by simpa using h1) = (b.map core)[k]'(by simpa using h2) := by simp only [e]
  simpa using this
theorem core_end {a b : List Tk} {n : Nat} (h : (a.map core).take n = (b.map core).take n) (ha : a.length = n) (hb : b.length = n) : sameT a b = true := by
  rw [List.take_of_length_le (by simp; omega), List.take_of_length_le (by simp; omega)] at h
  rw [sameT_iff]; exact h
/-- The cells of a token, whatever its place is. -/
def TkD (t : Tk) (vs : List Value) : Prop := ∃ p q r : Int, vs = [.int .i64 t.k, .string ⟨t.text.toArray⟩, .int .i64 t.v.k, .int .i64 t.v.n, .string ⟨t.v.s.toArray⟩, .int .i64 p, .int .i64 q, .int .i64 r]
theorem TkD.one : ∀ (t : Tk) (vs : List Value), TkD t vs → ∀ u ∈ vs, u.oneCell' = true := by rintro t vs ⟨p, q, r, rfl⟩ u hu; simp at hu; rcases hu with rfl | rfl | rfl | rfl | rfl | rfl | rfl | rfl <;> rfl
theorem TkD.size : ∀ (t : Tk) (vs : List Value), TkD t vs → vs.length = 8 := by rintro t vs ⟨p, q, r, rfl⟩; rfl
theorem TkD.of {s : List UInt8} : ∀ (t : Tk) (vs : List Value), TkC s t vs → TkD t vs := by rintro t vs rfl; exact ⟨_, _, _, rfl⟩
structure TRow (w : World) (A : Option Addr) (n : Nat) (l : List Tk) : Prop where
  rd : ∃ xs, Rd w w.heap.size 8 A n xs ∧ Reps TkD l xs
  n : n ≤ 100000
theorem TRow.len {w : World} {A : Option Addr} {n : Nat} {l : List Tk} (h : TRow w A n l) : l.length = n := by
  obtain ⟨xs, h1, h2⟩ := h.rd
  exact h1.len_of TkD.size h2 (by omega)
theorem TRow.next {w W : World} {A : Option Addr} {n : Nat} {l : List Tk} (h : TRow w A n l) (b : Below w.heap.size w W) : TRow W A n l := by
  obtain ⟨xs, h1, h2⟩ := h.rd
  exact ⟨⟨xs, h1.next b, h2⟩, h.n⟩
theorem TRow.at_ {w : World} {A : Option Addr} {n : Nat} {l : List Tk} (h : TRow w A n l) {k : Nat} (hk : k < l.length) : ∃ b off, A = some ⟨b, off, none⟩ ∧ b < w.heap.size ∧
    ∀ W, Below w.heap.size w W → (W.cell? ⟨b, off + k * 8, none⟩ = some (.int .i64 l[k].k) ∧ W.cell? ⟨b, off + k * 8 + 1, none⟩ = some (.string ⟨l[k].text.toArray⟩)) ∧ W.cell? ⟨b, off + k * 8 + 2, none⟩ = some (.int .i64 l[k].v.k) ∧ W.cell? ⟨b, off + k * 8 + 3, none⟩ = some (.int .i64 l[k].v.n) ∧ W.cell? ⟨b, off + k * 8 + 4, none⟩ = some (.string ⟨l[k].v.s.toArray⟩) := by
  obtain ⟨xs, h1, h2⟩ := h.rd
  obtain ⟨b, off, vs, e, hb, ⟨p, q, r, rfl⟩, hc⟩ := h1.elem TkD.size h2 hk (by omega)
  refine ⟨b, off, e, hb, fun W bW => ⟨⟨?_, ?_⟩, ?_, ?_, ?_⟩⟩
  · exact (bW.cell (p := ⟨b, off + k * 8 + 0, none⟩) hb).trans (hc 0 (by omega))
  · exact (bW.cell (p := ⟨b, off + k * 8 + 1, none⟩) hb).trans (hc 1 (by omega))
  · exact (bW.cell (p := ⟨b, off + k * 8 + 2, none⟩) hb).trans (hc 2 (by omega))
  · exact (bW.cell (p := ⟨b, off + k * 8 + 3, none⟩) hb).trans (hc 3 (by omega))
  · exact (bW.cell (p := ⟨b, off + k * 8 + 4, none⟩) hb).trans (hc 4 (by omega))
theorem vneq_yes {x y : Val} (h : x ≠ y) (w : World) : (binOp .neq 23 (.agg #[.int .i64 x.k, .int .i64 x.n, .string ⟨x.s.toArray⟩]) (.agg #[.int .i64 y.k, .int .i64 y.n, .string ⟨y.s.toArray⟩])).run Try.prog w = .ok (.bool true) w := by
  go_simp
  exact fun h1 h2 h3 => h (Val.same h1 h2 h3)
theorem vneq_no (x : Val) (w : World) : (binOp .neq 23 (.agg #[.int .i64 x.k, .int .i64 x.n, .string ⟨x.s.toArray⟩]) (.agg #[.int .i64 x.k, .int .i64 x.n, .string ⟨x.s.toArray⟩])).run Try.prog w = .ok (.bool false) w := by
  go_simp
theorem sneq_yes {x y : List UInt8} (h : x ≠ y) (w : World) : (binOp .neq 9 (.string ⟨x.toArray⟩) (.string ⟨y.toArray⟩)).run Try.prog w = .ok (.bool true) w := by
  go_simp
theorem sneq_no (x : List UInt8) (w : World) : (binOp .neq 9 (.string ⟨x.toArray⟩) (.string ⟨x.toArray⟩)).run Try.prog w = .ok (.bool false) w := by
  go_simp
set_option maxHeartbeats 2000000 in
set_option maxRecDepth 100000 in
theorem tsame_any (A A' : Option Addr) (n c n' c' : Nat) (a b : List Tk) (w : World) (h : TRow w A n a) (h' : TRow w A' n' b) :
    Calls Try.prog 22 #[.slice A n c, .slice A' n' c'] w fun e w' => e = .returned (.bool (sameT a b)) ∧ Below w.heap.size w w' := by
  have hl := h.len
  have hl' := h'.len
  have hcap := h.n
  have hcap' := h'.n
  by_cases hne : n = n'
  · subst hne
    have HV := Lib.hid h
    have HV' := Lib.hid h'
    have HL := Lib.hid hl
    have HL' := Lib.hid hl'
    clear h h' hl hl'
    go_enter Try.func22, Try.ntmps22
    go_wp2_with fail
    go_loopw [5, 13] (fun _ i wr => ∃ k : Nat, k ≤ n ∧ i = .int .i64 k ∧ Hid ((a.map core).take k = (b.map core).take k) ∧ Below w.heap.size w wr) (fun _ i _ => n - (intOf i).toNat)
    case atStart => exact ⟨0, by omega, rfl, Lib.hid (by simp), Below.refl _ _⟩
    case round =>
      obtain ⟨k, hk, rfl, H, hb⟩ := hrel
      by_cases hlt : k < n
      · have hlt' : k < a.length := by rw [HL.out]; exact hlt
        have hlt2 : k < b.length := by rw [HL'.out]; exact hlt
        obtain ⟨b1, off, rfl, hbl, hc⟩ := HV.out.at_ hlt'
        obtain ⟨b2, off2, rfl, hbl2, hc2⟩ := HV'.out.at_ hlt2
        have hki : (k : Int) < (n : Int) := by omega
        have hst := Lib.hid (core_take hlt' hlt2 H.out)
        have hno := Lib.hid (core_ne hlt' hlt2)
        have HC := Lib.hid hc
        have HC2 := Lib.hid hc2
        clear hc hc2
        generalize a[k] = x at *
        generalize b[k] = y at *
        obtain ⟨k1, x1, v1, i1⟩ := x
        obtain ⟨k2, x2, v2, i2⟩ := y
        by_cases e1 : k1 = k2
        · subst e1
          have d1 : (k1 != k1) = false := by simp
          by_cases e2 : x1 = x2
          · subst e2
            have s2 := fun w => sneq_no x1 w
            by_cases e3 : v1 = v2
            · subst e3
              have hst' := Lib.hid (hst.out rfl)
              have s3 := fun w => vneq_no v1 w
              go_wp2_with fail
              refine wp_region_sched [(0, true), (1, true), (2, true), (3, true), (4, true), (5, true), (6, true), (7, true), (8, true), (9, true), (10, true), (11, true), (12, true), (13, true), (14, true), (15, true), (16, true), (17, true), (18, true), (19, true), (20, true), (21, true), (22, true), (23, true), (24, true), (25, true), (26, true), (27, true), (28, true), (29, true), (30, true), (31, true), (32, true), (33, true), (34, true), (35, true), (36, true)] (by kernel_rfl) (by kernel_rfl) (fun _ _ d _ _ h => by cases d <;> exact h) ?_
              refine swith (fun W hW => (HC.out W (hb.drew.trans (hW.out.mono hb.size)))) (fun q1 => ?_)
              refine swith (fun W hW => (HC2.out W (hb.drew.trans (hW.out.mono hb.size)))) (fun q2 => ?_)
              repeat (first | (refine sreadx rfl rfl ?_; apply Exists.intro; apply And.intro; (· (intro W hW; first | (go_simp; done) | (go_simp; with_reducible rfl) | (go_simp; rw [if_neg (by omega)]; done) | (go_simp; rw [if_neg (by omega)]; with_reducible rfl))); simp only [Act.put, List.setIfInBounds_toArray, List.set_cons_zero, List.set_cons_succ]) | (refine sskip rfl rfl ?_; simp only [Act.put, List.setIfInBounds_toArray, List.set_cons_zero, List.set_cons_succ]))
              refine sdone ?_
              go_wp2_with fail
              go_roundw
              case rel => exact ⟨k + 1, by omega, by go_num, hst', hb.drew⟩
              case measure => simp [intOf]; omega
            · have hno' := Lib.hid (hno.out (fun e => e3 (by injection e with _ e; injection e with _ e)))
              have s3 := fun w => vneq_yes e3 w
              go_wp2_with fail
              refine wp_region_sched [(0, true), (1, true), (2, true), (3, true), (4, true), (5, true), (6, true), (7, true), (8, true), (9, true), (10, true), (11, true), (12, true), (13, true), (14, true), (15, true), (16, true), (17, true), (18, true), (19, true), (20, true), (21, true), (22, true), (23, true), (24, true), (25, true), (26, true), (27, true), (28, true), (29, true), (30, true), (31, true), (32, true), (33, true), (34, true), (35, true), (36, true)] (by kernel_rfl) (by kernel_rfl) (fun _ _ d _ _ h => by cases d <;> exact h) ?_
              refine swith (fun W hW => (HC.out W (hb.drew.trans (hW.out.mono hb.size)))) (fun q1 => ?_)
              refine swith (fun W hW => (HC2.out W (hb.drew.trans (hW.out.mono hb.size)))) (fun q2 => ?_)
              repeat (first | (refine sreadx rfl rfl ?_; apply Exists.intro; apply And.intro; (· (intro W hW; first | (go_simp; done) | (go_simp; with_reducible rfl) | (go_simp; rw [if_neg (by omega)]; done) | (go_simp; rw [if_neg (by omega)]; with_reducible rfl))); simp only [Act.put, List.setIfInBounds_toArray, List.set_cons_zero, List.set_cons_succ]) | (refine sskip rfl rfl ?_; simp only [Act.put, List.setIfInBounds_toArray, List.set_cons_zero, List.set_cons_succ]))
              refine sdone ?_
              go_wp2_with fail
              go_ret
              exact ⟨by rw [hno'.out]; rfl, hb.drew⟩
          · have hno' := Lib.hid (hno.out (fun e => e2 (by injection e with _ e; injection e with e _)))
            have d2 : (x1 == x2) = false := by simpa using e2
            go_wp2_with fail
            refine wp_region_sched [(0, true), (1, true), (2, true), (3, true), (4, true), (5, true), (6, true), (7, true), (8, true), (9, true), (10, true), (11, true), (12, true), (13, true), (14, true), (15, true), (16, true), (17, true), (18, true), (19, true), (20, true), (21, true), (22, true), (23, true), (24, true), (25, true), (26, true), (27, true), (28, true), (29, true), (30, true), (31, true), (32, true), (33, true), (34, true), (35, true), (36, true)] (by kernel_rfl) (by kernel_rfl) (fun _ _ d _ _ h => by cases d <;> exact h) ?_
            refine swith (fun W hW => (HC.out W (hb.drew.trans (hW.out.mono hb.size)))) (fun q1 => ?_)
            refine swith (fun W hW => (HC2.out W (hb.drew.trans (hW.out.mono hb.size)))) (fun q2 => ?_)
            repeat (first | (refine sreadx rfl rfl ?_; apply Exists.intro; apply And.intro; (· (intro W hW; first | (go_simp; done) | (go_simp; with_reducible rfl) | (go_simp; rw [if_neg (by omega)]; done) | (go_simp; rw [if_neg (by omega)]; with_reducible rfl))); simp only [Act.put, List.setIfInBounds_toArray, List.set_cons_zero, List.set_cons_succ]) | (refine sskip rfl rfl ?_; simp only [Act.put, List.setIfInBounds_toArray, List.set_cons_zero, List.set_cons_succ]))
            refine sdone ?_
            go_wp2_with fail
            go_ret
            exact ⟨by rw [hno'.out]; rfl, hb.drew⟩
        · have hno' := Lib.hid (hno.out (fun e => e1 (by injection e)))
          have d : (k1 != k2) = true := by simpa using e1
          go_wp2_with fail
          refine wp_region_sched [(0, true), (1, true), (2, true), (3, true), (4, true), (5, true), (6, true), (7, true), (8, true), (9, true), (10, true), (11, true), (12, true), (13, true), (14, true), (15, true), (16, true), (17, true), (18, true), (19, true), (20, true), (21, true), (22, true), (23, true), (24, true), (25, true), (26, true), (27, true), (28, true), (29, true), (30, true), (31, true), (32, true), (33, true), (34, true), (35, true), (36, true)] (by kernel_rfl) (by kernel_rfl) (fun _ _ d _ _ h => by cases d <;> exact h) ?_
          refine swith (fun W hW => (HC.out W (hb.drew.trans (hW.out.mono hb.size)))) (fun q1 => ?_)
          refine swith (fun W hW => (HC2.out W (hb.drew.trans (hW.out.mono hb.size)))) (fun q2 => ?_)
          repeat (first | (refine sreadx rfl rfl ?_; apply Exists.intro; apply And.intro; (· (intro W hW; first | (go_simp; done) | (go_simp; with_reducible rfl) | (go_simp; rw [if_neg (by omega)]; done) | (go_simp; rw [if_neg (by omega)]; with_reducible rfl))); simp only [Act.put, List.setIfInBounds_toArray, List.set_cons_zero, List.set_cons_succ]) | (refine sskip rfl rfl ?_; simp only [Act.put, List.setIfInBounds_toArray, List.set_cons_zero, List.set_cons_succ]))
          refine sdone ?_
          go_wp2_with fail
          go_ret
          exact ⟨by rw [hno'.out]; rfl, hb.drew⟩
      · obtain rfl : k = n := by omega
        go_wp2_with fail
        go_ret
        exact ⟨by rw [core_end H.out HL.out HL'.out]; rfl, hb⟩
  · have hr : Hid (sameT a b = false) := Lib.hid (sameT_len (by omega))
    have d1 : ((n : Int) != (n' : Int)) = true := by simp; omega
    have d2 : ((n : Int) == (n' : Int)) = false := by simp; omega
    clear hl hl'
    go_enter Try.func22, Try.ntmps22
    go_wp2_with fail
    go_ret
    exact ⟨by rw [hr.out]; rfl, Below.refl _ _⟩
end Go.Proofs.Ytpodniljpinigaa.X
