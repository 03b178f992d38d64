/- RecordBack's walk: for every two records it returns true. -/
import Derived.Test.YtpkoijlbbfffiaaRecGet6
import Derived.Test.YtpkoijlbbfffiaaRecSame
import Derived.Test.YtpkoijlbbfffiaaRecordFacts
namespace Go.Proofs.Ytpkoijlbbfffiaa.recordBack
open Go.RowKit O V R

theorem ok2 {w : World} {r : Rec} {s : RS} (h : RecAt w r s) (hl : lightRec r = true) (hr : rightRec r = true) : ROk2 r := by
  have hk := rok h hl hr
  rw [rightRec_eq] at hr
  simp only [Bool.and_eq_true] at hr
  obtain ⟨_, r2, r3, r4, r5⟩ := hr
  have f : ∀ {l : List Val}, okR l = true → (∀ v ∈ l, VOk v) → lightR l = true → (∀ v ∈ l, badV v = false ∧ VOk v) ∧ l.length ≤ 20 := fun h1 h2 h3 => by
    refine ⟨fun v hv => ⟨?_, h2 v hv⟩, (lightR_all h3).1⟩
    unfold okR at h1
    simp at h1
    exact h1 v hv
  refine ⟨hk.n, f r2 h.a.oks hk.a, f r3 h.e.oks hk.e, f r4 h.l.oks hk.l, fun x hx => ?_, hk.c.1⟩
  have c := hk.c.2 x hx
  have hx2 := List.all_eq_true.1 r5 x hx
  rw [okG_eq x _ rfl] at hx2
  simp only [Bool.and_eq_true] at hx2
  have g := f hx2.2.2 c.o c.l
  refine ⟨c.t0, c.t1, c.k1, c.k2, g.1, g.2, fun hg => ?_⟩
  have := hx2.2.1
  rw [hg] at this
  simp at this
  exact this
theorem uintL_cut {a b : Nat} {x y : List UInt8} (ha : a < 18446744073709551616) (hb : b < 18446744073709551616) (h : uintL a ++ x = uintL b ++ y) : a = b ∧ x = y := by
  have h1 := getU_put a x ha
  rw [h, getU_put b y hb] at h1
  injection h1 with h1
  injection h1 with h1 _
  subst h1
  exact ⟨rfl, List.append_cancel_left h⟩
theorem putVal_cut {v v' : Val} {x y : List UInt8} (hv : badV v = false ∧ VOk v) (hv' : badV v' = false ∧ VOk v') (h : putVal v ++ x = putVal v' ++ y) : v = v' ∧ x = y := by
  rcases badV_cases hv.1 with e | e <;> rcases badV_cases hv'.1 with e' | e'
  · subst e e'; exact ⟨rfl, List.append_cancel_left h⟩
  · subst e
    obtain ⟨b, tl, hb, hb0⟩ := putV_head e'
    rw [putVal_no (x := ⟨0, 0, []⟩) rfl, putVal_yes e', hb] at h
    simp at h
    rw [← h.1] at hb0
    exact absurd rfl hb0
  · subst e'
    obtain ⟨b, tl, hb, hb0⟩ := putV_head e
    rw [putVal_no (x := ⟨0, 0, []⟩) rfl, putVal_yes e, hb] at h
    simp at h
    rw [h.1] at hb0
    exact absurd rfl hb0
  · rw [putVal_yes e, putVal_yes e'] at h
    have h1 := getV_put [] x v e hv.2.n1 hv.2.n2
    have h2 := getV_put [] y v' e' hv'.2.n1 hv'.2.n2
    simp only [List.nil_append] at h1 h2
    rw [h, h2] at h1
    injection h1 with h1
    injection h1 with h1 _
    subst h1
    exact ⟨rfl, List.append_cancel_left h⟩
theorem putVals_cut : ∀ {a b : List Val} {x y : List UInt8}, a.length = b.length → (∀ v ∈ a, badV v = false ∧ VOk v) → (∀ v ∈ b, badV v = false ∧ VOk v) → putVals a ++ x = putVals b ++ y → a = b ∧ x = y
  | [], [], _, _, _, _, _, h => ⟨rfl, h⟩
  | [], _ :: _, _, _, hl, _, _, _ => by simp at hl
  | _ :: _, [], _, _, hl, _, _, _ => by simp at hl
  | v :: a, v' :: b, x, y, hl, ha, hb, h => by
    unfold putVals at h
    rw [List.flatMap_cons, List.flatMap_cons, List.append_assoc, List.append_assoc] at h
    obtain ⟨e1, h⟩ := putVal_cut (ha v (by simp)) (hb v' (by simp)) h
    obtain ⟨e2, h⟩ := putVals_cut (a := a) (b := b) (by simpa using hl) (fun u hu => ha u (by simp [hu])) (fun u hu => hb u (by simp [hu])) h
    exact ⟨by rw [e1, e2], h⟩
theorem rowL_cut {a b : List Val} {x y : List UInt8} (la : a.length ≤ 20) (lb : b.length ≤ 20) (ha : ∀ v ∈ a, badV v = false ∧ VOk v) (hb : ∀ v ∈ b, badV v = false ∧ VOk v) (h : rowL a ++ x = rowL b ++ y) : a = b ∧ x = y := by
  unfold rowL at h
  rw [List.append_assoc, List.append_assoc] at h
  obtain ⟨e, h⟩ := uintL_cut (by omega) (by omega) h
  exact putVals_cut e ha hb h
theorem chgL_cut {p q : Chg} {x y : List UInt8} (hp : COk2 p) (hq : COk2 q) (h : chgL p ++ x = chgL q ++ y) : p = q ∧ x = y := by
  obtain ⟨t, k, g, r⟩ := p
  obtain ⟨t', k', g', r'⟩ := q
  have p0 : 0 ≤ t := hp.t0
  have p1 : t ≤ 1073741824 := hp.t1
  have q0 : 0 ≤ t' := hq.t0
  have q1 : t' ≤ 1073741824 := hq.t1
  have pn : r.length ≤ 20 := hp.n
  have qn : r'.length ≤ 20 := hq.n
  unfold chgL at h
  rw [List.append_assoc, List.append_assoc, List.append_assoc, List.append_assoc] at h
  dsimp only at h
  obtain ⟨e1, h1⟩ := uintL_cut (by omega) (by omega) h
  obtain ⟨e2, h2⟩ := uintL_cut (zig_lt _ hp.k1 hp.k2) (zig_lt _ hq.k1 hq.k2) h1
  have e1' : t = t' := by omega
  have e2' : k = k' := by
    have e2 : zig k = zig k' := e2
    have := congrArg zag e2; rwa [zag_zig, zag_zig] at this
  have pr := hp.r
  have qr := hq.r
  have pe : g = true → r = [] := hp.e
  have qe : g' = true → r' = [] := hq.e
  dsimp only at pr qr
  clear hp hq h h1 e1 e2
  subst e1' e2'
  have u0 : uintL 0 = [0] := uintL_lt (by omega)
  cases g <;> cases g' <;> simp only [reduceIte, Bool.false_eq_true] at h2
  · rw [List.append_assoc, List.append_assoc] at h2
    obtain ⟨e3, h3⟩ := uintL_cut (by omega) (by omega) h2
    obtain ⟨e4, h4⟩ := putVals_cut (by omega) pr qr h3
    subst e4
    exact ⟨rfl, h4⟩
  · rw [← u0, List.append_assoc] at h2
    obtain ⟨e3, _⟩ := uintL_cut (by omega) (by omega) h2
    omega
  · rw [← u0, List.append_assoc] at h2
    obtain ⟨e3, _⟩ := uintL_cut (by omega) (by omega) h2
    omega
  · have hr : r = [] := pe rfl
    have hr' : r' = [] := qe rfl
    subst hr hr'
    exact ⟨rfl, List.append_cancel_left h2⟩
theorem putChgs_cut : ∀ {a b : List Chg} {x y : List UInt8}, a.length = b.length → (∀ v ∈ a, COk2 v) → (∀ v ∈ b, COk2 v) → putChgs a ++ x = putChgs b ++ y → a = b ∧ x = y
  | [], [], _, _, _, _, _, h => ⟨rfl, h⟩
  | [], _ :: _, _, _, hl, _, _, _ => by simp at hl
  | _ :: _, [], _, _, hl, _, _, _ => by simp at hl
  | v :: a, v' :: b, x, y, hl, ha, hb, h => by
    unfold putChgs at h
    rw [List.flatMap_cons, List.flatMap_cons, List.append_assoc, List.append_assoc] at h
    obtain ⟨e1, h⟩ := chgL_cut (ha v (by simp)) (hb v' (by simp)) h
    obtain ⟨e2, h⟩ := putChgs_cut (a := a) (b := b) (by simpa using hl) (fun u hu => ha u (by simp [hu])) (fun u hu => hb u (by simp [hu])) h
    exact ⟨by rw [e1, e2], h⟩
theorem putRec_cut {r r' : Rec} (h : ROk2 r) (h' : ROk2 r') (he : putRec r = putRec r') : r = r' := by
  have hn := h.n
  have hn' := h'.n
  have he := congrArg (· ++ ([] : List UInt8)) he
  simp only [putRec, rowCL, List.append_assoc] at he
  obtain ⟨e1, he⟩ := uintL_cut (by omega) (by omega) he
  obtain ⟨e2, he⟩ := uintL_cut (by omega) (by omega) he
  obtain ⟨e3, he⟩ := uintL_cut (by omega) (by omega) he
  obtain ⟨e4, he⟩ := uintL_cut (by omega) (by omega) he
  obtain ⟨e5, he⟩ := rowL_cut h.a.2 h'.a.2 h.a.1 h'.a.1 he
  obtain ⟨e6, he⟩ := rowL_cut h.e.2 h'.e.2 h.e.1 h'.e.1 he
  obtain ⟨e7, he⟩ := rowL_cut h.l.2 h'.l.2 h.l.1 h'.l.1 he
  obtain ⟨e8, he⟩ := uintL_cut (by have := h.c.2; omega) (by have := h'.c.2; omega) he
  obtain ⟨e9, _⟩ := putChgs_cut e8 h.c.1 h'.c.1 he
  exact Rec.same (by omega) (by omega) (by omega) (by omega) e5 e6 e7 e9
theorem same_no {x y : Rec} (h : x ≠ y) : sameRec x y = false := by
  cases hq : sameRec x y
  · rfl
  · exact absurd (sameRec_iff.1 hq) h
theorem putRec_len {w : World} {r : Rec} {s : RS} (h : RecAt w r s) (hk : ROk r) : (putRec r).length ≤ 1000000 := by
  have h4 : (nums4 r).length ≤ 40 := nums_len [r.inst.toNat, r.proc.toNat, r.piece.toNat, r.fin.toNat] (by have := hk.n; simp; omega)
  have f : ∀ {l : List Val}, lightR l = true → (∀ v ∈ l, VOk v) → (rowL l).length ≤ 20010 := fun hl ho => rowL_len (lightR_all hl).1 (fun v hv => ⟨ho v hv, (lightR_all hl).2 v hv⟩)
  have h1 := f hk.a h.a.oks
  have h2 := f hk.e h.e.oks
  have h3 := f hk.l h.l.oks
  have h5 := putChgs_len r.changes hk.c.2
  have h6 := uintL_len10 r.changes.length (by have := hk.c.1; omega)
  have h7 := hk.c.1
  rw [putRec_eq]
  simp [rows3, List.range_succ, rowOf, rowCL]
  omega
set_option maxRecDepth 100000 in
set_option maxHeartbeats 4000000 in
theorem walk (v0 : Value) (r : Rec) (v1 : Value) (r' : Rec) (w : World) (h0 : IsRec w v0 r) (h1 : IsRec w v1 r') :
    Calls Try.prog 12 #[v0, v1] w fun e w' => e = .returned (.bool true) ∧ Below w.heap.size w w' := by
  obtain ⟨s, rfl, hr, hb⟩ := h0
  obtain ⟨s', rfl, hr', hb'⟩ := h1
  have HR := Lib.hid hr
  have HR' := Lib.hid hr'
  clear hr hr' hb hb'
  simp only [rv]
  have X0 : Hid (RBox w r s w.heap.size ((w.alloc (.cells #[.int .i64 r.inst, .int .i64 r.proc, .int .i64 r.piece, .int .i64 r.fin, .slice s.a.A s.a.n s.a.c, .slice s.e.A s.e.n s.e.c, .slice s.l.A s.l.n s.l.c, .slice s.c.A s.c.n s.c.c] 37)).alloc (.cells #[.int .i64 r'.inst, .int .i64 r'.proc, .int .i64 r'.piece, .int .i64 r'.fin, .slice s'.a.A s'.a.n s'.a.c, .slice s'.e.A s'.e.n s'.e.c, .slice s'.l.A s'.l.n s'.l.c, .slice s'.c.A s'.c.n s'.c.c] 37))) := Lib.hid ⟨alloc_old' (alloc_at rfl), by repeat (first | exact Below.refl _ _ | refine Below.alloc ?_ (by simp <;> omega) _)⟩
  have Y0 : Hid (RBox w r' s' (w.heap.size + 1) ((w.alloc (.cells #[.int .i64 r.inst, .int .i64 r.proc, .int .i64 r.piece, .int .i64 r.fin, .slice s.a.A s.a.n s.a.c, .slice s.e.A s.e.n s.e.c, .slice s.l.A s.l.n s.l.c, .slice s.c.A s.c.n s.c.c] 37)).alloc (.cells #[.int .i64 r'.inst, .int .i64 r'.proc, .int .i64 r'.piece, .int .i64 r'.fin, .slice s'.a.A s'.a.n s'.a.c, .slice s'.e.A s'.e.n s'.e.c, .slice s'.l.A s'.l.n s'.l.c, .slice s'.c.A s'.c.n s'.c.c] 37))) := Lib.hid ⟨alloc_at (by simp), X0.out.2⟩
  go_enter Try.func12, Try.ntmps12
  go_wp2_with fail
  refine (lightRec_any r s _ (HR.out.next X0.out.2)).mono ?_; rintro e w1 ⟨rfl, b1⟩
  have X1 := Lib.hid (X0.out.next b1)
  have Y1 := Lib.hid (Y0.out.next b1)
  clear b1 X0 Y0
  obtain ⟨⟨⟨x0, x1⟩, x2, x3⟩, ⟨x4, x5⟩, x6, x7⟩ := X1.out.cells
  obtain ⟨⟨⟨y0, y1⟩, y2, y3⟩, ⟨y4, y5⟩, y6, y7⟩ := Y1.out.cells
  cases q1 : lightRec r
  · go_wp2_with fail
    refine (livesR_any _).mono ?_; rintro e wL ⟨rfl, bL⟩
    go_wp2_with fail
    go_ret
    exact ⟨rfl, (X1.out.next bL).2⟩
  go_wp2_with fail
  refine (lightRec_any r' s' _ (HR'.out.next X1.out.2)).mono ?_; rintro e w2 ⟨rfl, b2⟩
  clear x0 x1 x2 x3 x4 x5 x6 x7 y0 y1 y2 y3 y4 y5 y6 y7
  have X2 := Lib.hid (X1.out.next b2)
  have Y2 := Lib.hid (Y1.out.next b2)
  clear b2 X1 Y1
  obtain ⟨⟨⟨x0, x1⟩, x2, x3⟩, ⟨x4, x5⟩, x6, x7⟩ := X2.out.cells
  obtain ⟨⟨⟨y0, y1⟩, y2, y3⟩, ⟨y4, y5⟩, y6, y7⟩ := Y2.out.cells
  cases q2 : lightRec r'
  · go_wp2_with fail
    refine (livesR_any _).mono ?_; rintro e wL ⟨rfl, bL⟩
    go_wp2_with fail
    go_ret
    exact ⟨rfl, (X2.out.next bL).2⟩
  go_wp2_with fail
  refine (rightRec_any r s _ (HR.out.next X2.out.2) (light_short q1)).mono ?_; rintro e w3 ⟨rfl, b3⟩
  clear x0 x1 x2 x3 x4 x5 x6 x7 y0 y1 y2 y3 y4 y5 y6 y7
  have X3 := Lib.hid (X2.out.next b3)
  have Y3 := Lib.hid (Y2.out.next b3)
  clear b3 X2 Y2
  obtain ⟨⟨⟨x0, x1⟩, x2, x3⟩, ⟨x4, x5⟩, x6, x7⟩ := X3.out.cells
  obtain ⟨⟨⟨y0, y1⟩, y2, y3⟩, ⟨y4, y5⟩, y6, y7⟩ := Y3.out.cells
  cases q3 : rightRec r
  · go_wp2_with fail
    refine (livesR_any _).mono ?_; rintro e wL ⟨rfl, bL⟩
    go_wp2_with fail
    go_ret
    exact ⟨rfl, (X3.out.next bL).2⟩
  go_wp2_with fail
  refine (rightRec_any r' s' _ (HR'.out.next X3.out.2) (light_short q2)).mono ?_; rintro e w4 ⟨rfl, b4⟩
  clear x0 x1 x2 x3 x4 x5 x6 x7 y0 y1 y2 y3 y4 y5 y6 y7
  have X4 := Lib.hid (X3.out.next b4)
  have Y4 := Lib.hid (Y3.out.next b4)
  clear b4 X3 Y3
  obtain ⟨⟨⟨x0, x1⟩, x2, x3⟩, ⟨x4, x5⟩, x6, x7⟩ := X4.out.cells
  obtain ⟨⟨⟨y0, y1⟩, y2, y3⟩, ⟨y4, y5⟩, y6, y7⟩ := Y4.out.cells
  cases q4 : rightRec r'
  · go_wp2_with fail
    refine (livesR_any _).mono ?_; rintro e wL ⟨rfl, bL⟩
    go_wp2_with fail
    go_ret
    exact ⟨rfl, (X4.out.next bL).2⟩
  have OK := Lib.hid (rok HR.out q1 q3)
  have OK' := Lib.hid (rok HR'.out q2 q4)
  have O2 := Lib.hid (ok2 HR.out q1 q3)
  have O2' := Lib.hid (ok2 HR'.out q2 q4)
  have hlen := putRec_len HR.out OK.out
  have hsame : (sameRec r r' = true ∧ (putRec r == putRec r') = true) ∨ (sameRec r r' = false ∧ (putRec r == putRec r') = false) := by
    by_cases e : r = r'
    · subst e; exact .inl ⟨sameRec_iff.2 rfl, by simp⟩
    · refine .inr ⟨same_no e, ?_⟩
      rw [beq_eq_false_iff_ne]
      exact fun h => e (putRec_cut O2.out O2'.out h)
  have HS := Lib.hid hsame
  have hself : Hid (sameRec r r = true) := Lib.hid (sameRec_iff.2 rfl)
  clear hsame q1 q2 q3 q4
  go_wp2_with fail
  refine (putRec_any r s _ (HR.out.next X4.out.2) OK.out).mono ?_; rintro e w5 ⟨A5, n5, c5, rfl, o5, b5⟩
  clear x0 x1 x2 x3 x4 x5 x6 x7 y0 y1 y2 y3 y4 y5 y6 y7
  have hn5 := own_len o5
  have RD5 := Lib.hid (Rd.of_own o5)
  have C5 := own_capG o5
  have X5 := Lib.hid (X4.out.next b5)
  have Y5 := Lib.hid (Y4.out.next b5)
  clear b5 X4 Y4
  have hn5' : n5 ≤ 1000000000000 := by omega
  clear o5 hn5 hlen
  go_wp2_with fail
  refine (get_back A5 n5 c5 r _ RD5.out hn5' C5 O2.out).mono ?_; rintro e w6 ⟨sx, rfl, rx, b6⟩
  have RX6 := Lib.hid rx
  have X6 := Lib.hid (X5.out.next b6)
  have Y6 := Lib.hid (Y5.out.next b6)
  clear b6 X5 Y5
  clear rx RD5 C5 hn5'
  simp only [rv]
  have Z7 : Hid (RBox w6 r sx w6.heap.size (w6.alloc (.cells #[.int .i64 r.inst, .int .i64 r.proc, .int .i64 r.piece, .int .i64 r.fin, .slice sx.a.A sx.a.n sx.a.c, .slice sx.e.A sx.e.n sx.e.c, .slice sx.l.A sx.l.n sx.l.c, .slice sx.c.A sx.c.n sx.c.c] 37))) := Lib.hid ⟨alloc_at rfl, (Below.refl _ _).alloc (Nat.le_refl _) _⟩
  have X7 := Lib.hid (X6.out.next Z7.out.2)
  have Y7 := Lib.hid (Y6.out.next Z7.out.2)
  have RX7 := Lib.hid (RX6.out.next Z7.out.2)
  go_wp2_with fail
  obtain ⟨w7, hw7⟩ : ∃ w7, (w6.alloc (.cells #[.int .i64 r.inst, .int .i64 r.proc, .int .i64 r.piece, .int .i64 r.fin, .slice sx.a.A sx.a.n sx.a.c, .slice sx.e.A sx.e.n sx.e.c, .slice sx.l.A sx.l.n sx.l.c, .slice sx.c.A sx.c.n sx.c.c] 37)) = w7 := ⟨_, rfl⟩
  rw [hw7] at Z7 X7 Y7 RX7 ⊢
  clear hw7 X6 Y6 RX6
  rcases HS.out with ⟨i1, i2⟩ | ⟨i1, i2⟩
  · refine wp_region_sched [(0, true), (1, true), (2, true), (3, true), (4, false), (5, true), (6, true), (7, true), (10, true), (14, true), (15, true), (8, false), (9, true), (11, false), (12, true), (13, true), (16, false), (17, true), (18, true), (19, true), (20, false), (21, true), (22, true)] (by kernel_rfl) (by kernel_rfl) (fun _ _ d _ _ h => by cases d <;> exact h) ?_
    refine sbelow (w0 := w7) ((Below.refl _ _).drew) (fun B0 => ?_)
    refine swith (fun W hW => ((X7.out.next (bthen B0 hW.out)).cells)) (fun qx => ?_)
    refine swith (fun W hW => ((Y7.out.next (bthen B0 hW.out)).cells)) (fun qy => ?_)
    refine swith (fun W hW => ((Z7.out.next (bthen B0 hW.out)).cells)) (fun qz => ?_)
    repeat (first | (refine sreadx rfl rfl ?_; apply Exists.intro; apply And.intro; (· (intro W hW; first | (go_simp; done) | (go_simp; with_reducible rfl) | (go_simp; rw [if_neg (by omega)]; done) | (go_simp; rw [if_neg (by omega)]; with_reducible rfl))); simp only [Act.put, List.setIfInBounds_toArray, List.set_cons_zero, List.set_cons_succ]) | (refine sskip rfl rfl ?_; simp only [Act.put, List.setIfInBounds_toArray, List.set_cons_zero, List.set_cons_succ]))
    refine scall rfl rfl (fun K hK => ?_)
    go_simp
    refine (rsameRec_any r r sx s _ (RX7.out.next B0) (HR.out.next (X7.out.next B0).2)).mono ?_; rintro e v1 ⟨rfl, b1⟩; rw [hself.out]
    go_wp2_with fail
    refine hK.out _ _ (by exact b1) ?_
    clear hK K
    try simp only [Act.put, List.setIfInBounds_toArray, List.set_cons_zero, List.set_cons_succ]
    replace qx := fun (W : World) (hW : Grow v1 W) => qx W (Grow.trans (b1) hW)
    replace qy := fun (W : World) (hW : Grow v1 W) => qy W (Grow.trans (b1) hW)
    replace qz := fun (W : World) (hW : Grow v1 W) => qz W (Grow.trans (b1) hW)
    have B1 := bthen B0 b1
    repeat (first | (refine sreadx rfl rfl ?_; apply Exists.intro; apply And.intro; (· (intro W hW; first | (go_simp; done) | (go_simp; with_reducible rfl) | (go_simp; rw [if_neg (by omega)]; done) | (go_simp; rw [if_neg (by omega)]; with_reducible rfl))); simp only [Act.put, List.setIfInBounds_toArray, List.set_cons_zero, List.set_cons_succ]) | (refine sskip rfl rfl ?_; simp only [Act.put, List.setIfInBounds_toArray, List.set_cons_zero, List.set_cons_succ]))
    refine scall rfl rfl (fun K hK => ?_)
    go_simp
    refine (putRec_any r s _ (HR.out.next (X7.out.next B1).2) OK.out).mono ?_; rintro e v2 ⟨A2, n2, c2, rfl, o2, b2⟩
    go_wp2_with fail
    refine hK.out _ _ (by exact b2) ?_
    clear hK K
    try simp only [Act.put, List.setIfInBounds_toArray, List.set_cons_zero, List.set_cons_succ]
    replace qx := fun (W : World) (hW : Grow v2 W) => qx W (Grow.trans (b2) hW)
    replace qy := fun (W : World) (hW : Grow v2 W) => qy W (Grow.trans (b2) hW)
    refine swith (fun W hW => (strq (c := c2) ((Rd.of_own o2).next hW.out))) (fun qs => ?_)
    have B2 := bthen B1 b2
    repeat (first | (refine sreadx rfl rfl ?_; apply Exists.intro; apply And.intro; (· (intro W hW; first | (go_simp; done) | (go_simp; with_reducible rfl) | (go_simp; rw [if_neg (by omega)]; done) | (go_simp; rw [if_neg (by omega)]; with_reducible rfl))); simp only [Act.put, List.setIfInBounds_toArray, List.set_cons_zero, List.set_cons_succ]) | (refine sskip rfl rfl ?_; simp only [Act.put, List.setIfInBounds_toArray, List.set_cons_zero, List.set_cons_succ]))
    refine scall rfl rfl (fun K hK => ?_)
    go_simp
    refine (putRec_any r' s' _ (HR'.out.next (X7.out.next B2).2) OK'.out).mono ?_; rintro e v3 ⟨A3, n3, c3, rfl, o3, b3⟩
    go_wp2_with fail
    refine hK.out _ _ (by exact b3) ?_
    clear hK K
    try simp only [Act.put, List.setIfInBounds_toArray, List.set_cons_zero, List.set_cons_succ]
    replace qx := fun (W : World) (hW : Grow v3 W) => qx W (Grow.trans (b3) hW)
    replace qy := fun (W : World) (hW : Grow v3 W) => qy W (Grow.trans (b3) hW)
    replace qs := fun (W : World) (hW : Grow v3 W) => qs W (Grow.trans (b3) hW)
    refine swith (fun W hW => (strq (c := c3) ((Rd.of_own o3).next hW.out))) (fun qt => ?_)
    have B3 := bthen B2 b3
    repeat (first | (refine sreadx rfl rfl ?_; apply Exists.intro; apply And.intro; (· (intro W hW; first | (go_simp; done) | (go_simp; with_reducible rfl) | (go_simp; rw [if_neg (by omega)]; done) | (go_simp; rw [if_neg (by omega)]; with_reducible rfl))); simp only [Act.put, List.setIfInBounds_toArray, List.set_cons_zero, List.set_cons_succ]) | (refine sskip rfl rfl ?_; simp only [Act.put, List.setIfInBounds_toArray, List.set_cons_zero, List.set_cons_succ]))
    refine scall rfl rfl (fun K hK => ?_)
    go_simp
    refine (rsameRec_any r r' s s' _ (HR.out.next (X7.out.next B3).2) (HR'.out.next (X7.out.next B3).2)).mono ?_; rintro e v4 ⟨rfl, b4⟩; rw [i1]
    go_wp2_with fail
    refine hK.out _ _ (by exact b4) ?_
    clear hK K
    try simp only [Act.put, List.setIfInBounds_toArray, List.set_cons_zero, List.set_cons_succ]
    have B4 := bthen B3 b4
    repeat (first | (refine sreadx rfl rfl ?_; apply Exists.intro; apply And.intro; (· (intro W hW; first | (go_simp; done) | (go_simp; with_reducible rfl) | (go_simp; rw [if_neg (by omega)]; done) | (go_simp; rw [if_neg (by omega)]; with_reducible rfl))); simp only [Act.put, List.setIfInBounds_toArray, List.set_cons_zero, List.set_cons_succ]) | (refine sskip rfl rfl ?_; simp only [Act.put, List.setIfInBounds_toArray, List.set_cons_zero, List.set_cons_succ]))
    refine scall rfl rfl (fun K hK => ?_)
    go_simp
    refine (livesR_any _).mono ?_; rintro e v5 ⟨rfl, b5⟩
    go_wp2_with fail
    refine hK.out _ _ (by exact b5) ?_
    clear hK K
    try simp only [Act.put, List.setIfInBounds_toArray, List.set_cons_zero, List.set_cons_succ]
    repeat (first | (refine sreadx rfl rfl ?_; apply Exists.intro; apply And.intro; (· (intro W hW; first | (go_simp; done) | (go_simp; with_reducible rfl) | (go_simp; rw [if_neg (by omega)]; done) | (go_simp; rw [if_neg (by omega)]; with_reducible rfl))); simp only [Act.put, List.setIfInBounds_toArray, List.set_cons_zero, List.set_cons_succ]) | (refine sskip rfl rfl ?_; simp only [Act.put, List.setIfInBounds_toArray, List.set_cons_zero, List.set_cons_succ]))
    refine sdone ?_
    go_wp2_with fail
    go_ret
    exact ⟨rfl, (X7.out.next (bthen B4 b5)).2⟩
  · refine wp_region_sched [(0, true), (1, true), (2, true), (3, true), (4, false), (5, true), (6, true), (7, true), (10, true), (14, true), (15, true), (8, false), (9, true), (11, false), (12, true), (13, true), (16, false), (17, true), (18, true), (19, true), (20, false), (21, true), (22, true)] (by kernel_rfl) (by kernel_rfl) (fun _ _ d _ _ h => by cases d <;> exact h) ?_
    refine sbelow (w0 := w7) ((Below.refl _ _).drew) (fun B0 => ?_)
    refine swith (fun W hW => ((X7.out.next (bthen B0 hW.out)).cells)) (fun qx => ?_)
    refine swith (fun W hW => ((Y7.out.next (bthen B0 hW.out)).cells)) (fun qy => ?_)
    refine swith (fun W hW => ((Z7.out.next (bthen B0 hW.out)).cells)) (fun qz => ?_)
    repeat (first | (refine sreadx rfl rfl ?_; apply Exists.intro; apply And.intro; (· (intro W hW; first | (go_simp; done) | (go_simp; with_reducible rfl) | (go_simp; rw [if_neg (by omega)]; done) | (go_simp; rw [if_neg (by omega)]; with_reducible rfl))); simp only [Act.put, List.setIfInBounds_toArray, List.set_cons_zero, List.set_cons_succ]) | (refine sskip rfl rfl ?_; simp only [Act.put, List.setIfInBounds_toArray, List.set_cons_zero, List.set_cons_succ]))
    refine scall rfl rfl (fun K hK => ?_)
    go_simp
    refine (rsameRec_any r r sx s _ (RX7.out.next B0) (HR.out.next (X7.out.next B0).2)).mono ?_; rintro e v1 ⟨rfl, b1⟩; rw [hself.out]
    go_wp2_with fail
    refine hK.out _ _ (by exact b1) ?_
    clear hK K
    try simp only [Act.put, List.setIfInBounds_toArray, List.set_cons_zero, List.set_cons_succ]
    replace qx := fun (W : World) (hW : Grow v1 W) => qx W (Grow.trans (b1) hW)
    replace qy := fun (W : World) (hW : Grow v1 W) => qy W (Grow.trans (b1) hW)
    replace qz := fun (W : World) (hW : Grow v1 W) => qz W (Grow.trans (b1) hW)
    have B1 := bthen B0 b1
    repeat (first | (refine sreadx rfl rfl ?_; apply Exists.intro; apply And.intro; (· (intro W hW; first | (go_simp; done) | (go_simp; with_reducible rfl) | (go_simp; rw [if_neg (by omega)]; done) | (go_simp; rw [if_neg (by omega)]; with_reducible rfl))); simp only [Act.put, List.setIfInBounds_toArray, List.set_cons_zero, List.set_cons_succ]) | (refine sskip rfl rfl ?_; simp only [Act.put, List.setIfInBounds_toArray, List.set_cons_zero, List.set_cons_succ]))
    refine scall rfl rfl (fun K hK => ?_)
    go_simp
    refine (putRec_any r s _ (HR.out.next (X7.out.next B1).2) OK.out).mono ?_; rintro e v2 ⟨A2, n2, c2, rfl, o2, b2⟩
    go_wp2_with fail
    refine hK.out _ _ (by exact b2) ?_
    clear hK K
    try simp only [Act.put, List.setIfInBounds_toArray, List.set_cons_zero, List.set_cons_succ]
    replace qx := fun (W : World) (hW : Grow v2 W) => qx W (Grow.trans (b2) hW)
    replace qy := fun (W : World) (hW : Grow v2 W) => qy W (Grow.trans (b2) hW)
    refine swith (fun W hW => (strq (c := c2) ((Rd.of_own o2).next hW.out))) (fun qs => ?_)
    have B2 := bthen B1 b2
    repeat (first | (refine sreadx rfl rfl ?_; apply Exists.intro; apply And.intro; (· (intro W hW; first | (go_simp; done) | (go_simp; with_reducible rfl) | (go_simp; rw [if_neg (by omega)]; done) | (go_simp; rw [if_neg (by omega)]; with_reducible rfl))); simp only [Act.put, List.setIfInBounds_toArray, List.set_cons_zero, List.set_cons_succ]) | (refine sskip rfl rfl ?_; simp only [Act.put, List.setIfInBounds_toArray, List.set_cons_zero, List.set_cons_succ]))
    refine scall rfl rfl (fun K hK => ?_)
    go_simp
    refine (putRec_any r' s' _ (HR'.out.next (X7.out.next B2).2) OK'.out).mono ?_; rintro e v3 ⟨A3, n3, c3, rfl, o3, b3⟩
    go_wp2_with fail
    refine hK.out _ _ (by exact b3) ?_
    clear hK K
    try simp only [Act.put, List.setIfInBounds_toArray, List.set_cons_zero, List.set_cons_succ]
    replace qx := fun (W : World) (hW : Grow v3 W) => qx W (Grow.trans (b3) hW)
    replace qy := fun (W : World) (hW : Grow v3 W) => qy W (Grow.trans (b3) hW)
    replace qs := fun (W : World) (hW : Grow v3 W) => qs W (Grow.trans (b3) hW)
    refine swith (fun W hW => (strq (c := c3) ((Rd.of_own o3).next hW.out))) (fun qt => ?_)
    have B3 := bthen B2 b3
    repeat (first | (refine sreadx rfl rfl ?_; apply Exists.intro; apply And.intro; (· (intro W hW; first | (go_simp; done) | (go_simp; with_reducible rfl) | (go_simp; rw [if_neg (by omega)]; done) | (go_simp; rw [if_neg (by omega)]; with_reducible rfl))); simp only [Act.put, List.setIfInBounds_toArray, List.set_cons_zero, List.set_cons_succ]) | (refine sskip rfl rfl ?_; simp only [Act.put, List.setIfInBounds_toArray, List.set_cons_zero, List.set_cons_succ]))
    refine scall rfl rfl (fun K hK => ?_)
    go_simp
    refine (rsameRec_any r r' s s' _ (HR.out.next (X7.out.next B3).2) (HR'.out.next (X7.out.next B3).2)).mono ?_; rintro e v4 ⟨rfl, b4⟩; rw [i1]
    go_wp2_with fail
    refine hK.out _ _ (by exact b4) ?_
    clear hK K
    try simp only [Act.put, List.setIfInBounds_toArray, List.set_cons_zero, List.set_cons_succ]
    have B4 := bthen B3 b4
    repeat (first | (refine sreadx rfl rfl ?_; apply Exists.intro; apply And.intro; (· (intro W hW; first | (go_simp; done) | (go_simp; with_reducible rfl) | (go_simp; rw [if_neg (by omega)]; done) | (go_simp; rw [if_neg (by omega)]; with_reducible rfl))); simp only [Act.put, List.setIfInBounds_toArray, List.set_cons_zero, List.set_cons_succ]) | (refine sskip rfl rfl ?_; simp only [Act.put, List.setIfInBounds_toArray, List.set_cons_zero, List.set_cons_succ]))
    refine scall rfl rfl (fun K hK => ?_)
    go_simp
    refine (livesR_any _).mono ?_; rintro e v5 ⟨rfl, b5⟩
    go_wp2_with fail
    refine hK.out _ _ (by exact b5) ?_
    clear hK K
    try simp only [Act.put, List.setIfInBounds_toArray, List.set_cons_zero, List.set_cons_succ]
    repeat (first | (refine sreadx rfl rfl ?_; apply Exists.intro; apply And.intro; (· (intro W hW; first | (go_simp; done) | (go_simp; with_reducible rfl) | (go_simp; rw [if_neg (by omega)]; done) | (go_simp; rw [if_neg (by omega)]; with_reducible rfl))); simp only [Act.put, List.setIfInBounds_toArray, List.set_cons_zero, List.set_cons_succ]) | (refine sskip rfl rfl ?_; simp only [Act.put, List.setIfInBounds_toArray, List.set_cons_zero, List.set_cons_succ]))
    refine sdone ?_
    go_wp2_with fail
    go_ret
    exact ⟨rfl, (X7.out.next (bthen B4 b5)).2⟩
end Go.Proofs.Ytpkoijlbbfffiaa.recordBack
