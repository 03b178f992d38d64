/- Texts of the proof, joined: SynOpd. -/
import Derived.Test.YtnbmpfdffoidaaaGreatDoorBk18
set_option linter.unusedVariables false
set_option linter.unusedSimpArgs false
set_option maxHeartbeats 8000000
set_option maxRecDepth 100000
namespace Go.Proofs.YtnbmpfdffoidaaaGreatDoor.Y
open Go.RowKit O V S X
theorem pOperand_some {f d : Nat} {l : List Tok} {v : Val} (h : pLit l = some v) : pOperand (f + 1) d l = .ok (.val v) l.tail := by rw [pOperand, h]
theorem pOperand_none {f d : Nat} {l : List Tok} (h : pLit l = none) : pOperand (f + 1) d l =
      if isT l [40] then Y.around [40] [41] d l fun d r => pExpr f 0 d r
      else if isT l w_has then (pCall f 4 1 d l.tail).bind fun t r => .ok (.has t.1 (t.2.2.getD 0 (.var []))) r
      else if isT l w_sum then (pCall f 5 2 d l.tail).bind fun t r => .ok (.sum t.1 t.2.1 (t.2.2.getD 0 (.var [])) (t.2.2.getD 1 (.var []))) r
      else if isT l w_count then (pCall f 6 2 d l.tail).bind fun t r => .ok (.cnt t.1 (t.2.2.getD 0 (.var [])) (t.2.2.getD 1 (.var []))) r
      else (pName l).bind fun n r => if isT r [91] then (pKey f d r).bind fun k r => (want r [46]).bind fun _ r => (pName r).bind fun c r => .ok (.cell n c k) r else .ok (.var n) r := by
  have ar : ∀ {α β : Type} (a b : List UInt8) (d : Nat) (l : List Tok) (k : Nat → List Tok → Res α) (φ : α → β), (Y.around a b d l k).bind (fun t r => .ok (φ t) r) = Y.around a b d l fun d r => (k d r).bind fun t r => .ok (φ t) r := fun a b d l k φ => by
    unfold Y.around
    split
    · split
      · rfl
      · rw [bind_assoc, bind_assoc]
        congr 1
        funext x r
        rw [bind_assoc]
        rfl
    · rfl
  rw [pOperand, h]
  simp only [pCall, ar]
  congr 1
  congr 1
  · congr 1
    funext d r
    simp [pCall1, pArgs, bind_assoc]
  · congr 1
    · congr 1
      funext d r
      simp [pCall1, pArgs, bind_assoc]
    · congr 1
      congr 1
      funext d r
      simp [pCall1, pArgs, bind_assoc]
theorem pArgs_len {f d : Nat} : ∀ {n : Nat} {acc es : List Ex} {l r : List Tok}, pArgs f d n acc l = .ok es r → es.length = acc.length + n
 | 0, acc, es, l, r, h => by rw [pArgs] at h; injection h with h1 _; rw [h1]; rfl
 | n + 1, acc, es, l, r, h => by
  rw [pArgs] at h
  cases h1 : want l [44] with
  | oof => rw [h1] at h; cases h
  | bad => rw [h1] at h; cases h
  | ok u r1 =>
   rw [h1] at h
   simp only [bind_ok] at h
   cases h2 : pExpr f 0 d r1 with
   | oof => rw [h2] at h; cases h
   | bad => rw [h2] at h; cases h
   | ok a r2 =>
    rw [h2] at h
    simp only [bind_ok] at h
    have := pArgs_len h
    simp at this
    omega
theorem bind_ok_inv {α β : Type} {p : Res α} {k : α → List Tok → Res β} {b : β} {r : List Tok} (h : p.bind k = .ok b r) : ∃ a l, p = .ok a l ∧ k a l = .ok b r := by
 cases p with
 | oof => cases h
 | bad => cases h
 | ok a l => exact ⟨a, l, rfl, h⟩
theorem pCall_inv {f kind n d : Nat} {l r : List Tok} {t : List UInt8 × List UInt8 × List Ex} (h : pCall f kind n d l = .ok t r) : ∃ d' l' r', pCall1 f kind n d' l' = .ok t r' := by
 unfold pCall Y.around at h
 split at h
 ·split at h
  ·cases h
  ·obtain ⟨a, l1, h1, h2⟩ := bind_ok_inv h
   obtain ⟨u, l2, h3, h4⟩ := bind_ok_inv h2
   injection h4 with h4 _
   subst h4
   exact ⟨_, _, _, h1⟩
 ·cases h
theorem pCall_len {f kind n d : Nat} {l r : List Tok} {t : List UInt8 × List UInt8 × List Ex} (h : pCall f kind n d l = .ok t r) : t.2.2.length = n := by
 obtain ⟨d', l', r', h⟩ := pCall_inv h
 unfold pCall1 at h
 obtain ⟨nm, r1, _, h⟩ := bind_ok_inv h
 obtain ⟨c, r2, _, h⟩ := bind_ok_inv h
 obtain ⟨es, r3, h3, h⟩ := bind_ok_inv h
 injection h with h _
 rw [← h]
 simpa using pArgs_len h3
theorem pCall_col {f kind n d : Nat} {l r : List Tok} {t : List UInt8 × List UInt8 × List Ex} (h : pCall f kind n d l = .ok t r) : kind = 5 ∨ t.2.1 = [] := by
 obtain ⟨d', l', r', h⟩ := pCall_inv h
 by_cases hk : kind = 5
 ·exact .inl hk
 ·unfold pCall1 at h
  obtain ⟨nm, r1, _, h⟩ := bind_ok_inv h
  rw [if_neg hk] at h
  simp only [bind_ok] at h
  obtain ⟨es, r3, h3, h⟩ := bind_ok_inv h
  injection h with h _
  rw [← h]
  exact .inr rfl
theorem opd_lit (f : Nat) (hE : EC f) (g d : Nat) (l : List Tok) (w : World) (h : Ps w g d l) (hd : d ≤ 16) (hno : pOperand (f + 1) d l ≠ .oof) (v : Val) (hl : pLit l = some v) :
  Calls Tryz.prog 180 #[.pointer (some ⟨g, 0, none⟩)] w (Out [g] g d w (pOperand (f + 1) d l) (ExG w.heap.size)) := by
 have HE := Lib.hid hE
 have hmf : ∀ (fn : Fn) (first cap : Array Value) (w : World), (Instr.makeFunc fn first cap).run Tryz.prog w = .ok (.func fn first cap) w := fun _ _ _ _ => rfl
 obtain ⟨RT, hRT⟩ : ∃ RT, pOperand (f + 1) d l = RT := ⟨_, rfl⟩
 rw [hRT] at hno ⊢
 rw [pOperand_some hl] at hRT
 have HRT := Lib.hid hRT
 have HNO := Lib.hid hno
 have HS := Lib.hid h
 have hlt := h.lt
 clear hRT hno h
 clear hE
 have HA : Hid (Below w.heap.size w ((w.alloc (.cells #[.pointer (some ⟨g, 0, none⟩)] 51)).alloc (.cells #[nv 0, nv 0, nv 0, sv [], sv [], sv [], nv 0, .slice none 0 0, nv 0, nv 0, nv 0] 59))) := Lib.hid (by repeat (first | exact Below.refl _ _ | refine Below.alloc ?_ (by simp <;> omega) _))
 have HB0 : Hid (((w.alloc (.cells #[.pointer (some ⟨g, 0, none⟩)] 51)).alloc (.cells #[nv 0, nv 0, nv 0, sv [], sv [], sv [], nv 0, .slice none 0 0, nv 0, nv 0, nv 0] 59)).heap[w.heap.size]? = some (.cells #[.pointer (some ⟨g, 0, none⟩)] 51 (0, 0))) := Lib.hid (alloc_old' (alloc_at rfl))
 have HB1 : Hid (((w.alloc (.cells #[.pointer (some ⟨g, 0, none⟩)] 51)).alloc (.cells #[nv 0, nv 0, nv 0, sv [], sv [], sv [], nv 0, .slice none 0 0, nv 0, nv 0, nv 0] 59)).heap[w.heap.size + 1]? = some (.cells #[nv 0, nv 0, nv 0, sv [], sv [], sv [], nv 0, .slice none 0 0, nv 0, nv 0, nv 0] 59 (0, 0))) := Lib.hid (alloc_at (by simp))
 have hz2 : ((w.alloc (.cells #[.pointer (some ⟨g, 0, none⟩)] 51)).alloc (.cells #[nv 0, nv 0, nv 0, sv [], sv [], sv [], nv 0, .slice none 0 0, nv 0, nv 0, nv 0] 59)).heap.size = w.heap.size + 2 := by simp
 go_enter Tryz.func180, Tryz.ntmps180
 go_wp2_with fail
 have HP2 := Lib.hid (HS.out.next HA.out)
 obtain ⟨w2, hw2⟩ : ∃ w2, ((w.alloc (.cells #[.pointer (some ⟨g, 0, none⟩)] 51)).alloc (.cells #[nv 0, nv 0, nv 0, sv [], sv [], sv [], nv 0, .slice none 0 0, nv 0, nv 0, nv 0] 59)) = w2 := ⟨_, rfl⟩
 rw [hw2] at HA HB0 HB1 hz2 HP2 ⊢
 clear hw2
 refine (here_any g d l _ HP2.out).mono ?_; rintro e w3 ⟨⟨p, q, z, rfl⟩, b3⟩
 have hb1 := box_next HB1.out b3
 obtain ⟨⟨⟨⟨y0, y1⟩, y2, y3⟩, ⟨y4, y5⟩, y6, y7⟩, ⟨y8, y9⟩, y10⟩ := cells11 hb1
 obtain ⟨⟨⟨⟨fr0, fr1⟩, fr2, fr3⟩, ⟨fr4, fr5⟩, fr6, fr7⟩, ⟨fr8, fr9⟩, fr10⟩ := frozen11 hb1
 have q0 : w3.cell? ⟨w.heap.size, 0, none⟩ = some (.pointer (some ⟨g, 0, none⟩)) := by rw [Lib.cell_of_heap (box_next HB0.out b3)]; rfl
 have hs3 := b3.size
 go_wp2_with fail
 have HB4 : Hid ((((w3.setCell ⟨w.heap.size + 1, 8, none⟩ (.int .i64 p)).setCell ⟨w.heap.size + 1, 9, none⟩ (.int .i64 q)).setCell ⟨w.heap.size + 1, 10, none⟩ (.int .i64 z)).heap[w.heap.size + 1]? = some (.cells #[nv 0, nv 0, nv 0, sv [], sv [], sv [], nv 0, .slice none 0 0, nv p, nv q, nv z] 59 (0, 0))) := Lib.hid (heap_set' (heap_set' (heap_set' hb1 _ 8 rfl) _ 9 rfl) _ 10 rfl)
 have HM4 : Hid (Mod [g] w (((w3.setCell ⟨w.heap.size + 1, 8, none⟩ (.int .i64 p)).setCell ⟨w.heap.size + 1, 9, none⟩ (.int .i64 q)).setCell ⟨w.heap.size + 1, 10, none⟩ (.int .i64 z))) := Lib.hid (((((Mod.of_below HA.out).then (.of_below b3)).set (.inr (by omega)) _).set (.inr (by omega)) _).set (.inr (by omega)) _)
 have HP4 := Lib.hid ((((HP2.out.next b3).set (b := w.heap.size + 1) (i := 8) (by omega) (.int .i64 p)).set (b := w.heap.size + 1) (i := 9) (by omega) (.int .i64 q)).set (b := w.heap.size + 1) (i := 10) (by omega) (.int .i64 z))
 have HB04 : Hid ((((w3.setCell ⟨w.heap.size + 1, 8, none⟩ (.int .i64 p)).setCell ⟨w.heap.size + 1, 9, none⟩ (.int .i64 q)).setCell ⟨w.heap.size + 1, 10, none⟩ (.int .i64 z)).heap[w.heap.size]? = some (.cells #[.pointer (some ⟨g, 0, none⟩)] 51 (0, 0))) := Lib.hid (by
  rw [Below.heap_setCell _ _ _ _ (by simp only; omega), Below.heap_setCell _ _ _ _ (by simp only; omega), Below.heap_setCell _ _ _ _ (by simp only; omega)]
  exact box_next HB0.out b3)
 have hz4 : (((w3.setCell ⟨w.heap.size + 1, 8, none⟩ (.int .i64 p)).setCell ⟨w.heap.size + 1, 9, none⟩ (.int .i64 q)).setCell ⟨w.heap.size + 1, 10, none⟩ (.int .i64 z)).heap.size = w3.heap.size := by simp
 obtain ⟨w4, hw4⟩ : ∃ w4, (((w3.setCell ⟨w.heap.size + 1, 8, none⟩ (.int .i64 p)).setCell ⟨w.heap.size + 1, 9, none⟩ (.int .i64 q)).setCell ⟨w.heap.size + 1, 10, none⟩ (.int .i64 z)) = w4 := ⟨_, rfl⟩
 rw [hw4] at HB4 HM4 HP4 HB04 hz4 ⊢
 clear hw4 b3 hb1 HB0 HB1 HA HP2 q0
 clear y0 y1 y2 y3 y4 y5 y6 y7 y8 y9 y10 fr0 fr1 fr2 fr3 fr4 fr5 fr6 fr7 fr8 fr9 fr10
 refine (literal_any g d l _ HP4.out).mono ?_; rintro e w5 ⟨m5, h5⟩
 rw [hl] at h5
 have HB5 := Lib.hid (m5.box HB4.out (by simp; omega))
 have HB05 := Lib.hid (m5.box HB04.out (by simp; omega))
 have HM5 := Lib.hid (HM4.out.then m5)
 have hs5 := m5.size
 clear m5 HB4 HB04 HM4 HP4
 obtain ⟨rfl, p5⟩ := h5
 have P5 := Lib.hid p5
 clear p5
 obtain ⟨⟨⟨⟨y0, y1⟩, y2, y3⟩, ⟨y4, y5⟩, y6, y7⟩, ⟨y8, y9⟩, y10⟩ := cells11 HB5.out
 obtain ⟨⟨⟨⟨fr0, fr1⟩, fr2, fr3⟩, ⟨fr4, fr5⟩, fr6, fr7⟩, ⟨fr8, fr9⟩, fr10⟩ := frozen11 HB5.out
 unfold vv
 go_wp2_with fail
 have HB6 := Lib.hid (alloc_old' (o := .cells #[nv v.k, nv v.n, sv v.s] 57) HB5.out)
 have HV6 : Hid ((w5.alloc (.cells #[nv v.k, nv v.n, sv v.s] 57)).heap[w5.heap.size]? = some (.cells #[nv v.k, nv v.n, sv v.s] 57 (0, 0))) := Lib.hid (alloc_at rfl)
 have HM6 := Lib.hid (HM5.out.alloc (.cells #[nv v.k, nv v.n, sv v.s] 57))
 have P6 := Lib.hid (P5.out.alloc (.cells #[nv v.k, nv v.n, sv v.s] 57))
 have hz6 : (w5.alloc (.cells #[nv v.k, nv v.n, sv v.s] 57)).heap.size = w5.heap.size + 1 := by simp
 clear y0 y1 y2 y3 y4 y5 y6 y7 y8 y9 y10 fr0 fr1 fr2 fr3 fr4 fr5 fr6 fr7 fr8 fr9 fr10
 clear HB5 HM5 P5
 generalize (w5.alloc (.cells #[nv v.k, nv v.n, sv v.s] 57)) = w6 at *
 obtain ⟨⟨⟨⟨y0, y1⟩, y2, y3⟩, ⟨y4, y5⟩, y6, y7⟩, ⟨y8, y9⟩, y10⟩ := cells11 HB6.out
 obtain ⟨⟨⟨⟨fr0, fr1⟩, fr2, fr3⟩, ⟨fr4, fr5⟩, fr6, fr7⟩, ⟨fr8, fr9⟩, fr10⟩ := frozen11 HB6.out
 obtain ⟨v0, v1, v2⟩ := cells3 HV6.out
 have hbv : w.heap.size + 1 ≠ w5.heap.size := by omega
 go_region
 obtain ⟨w7, hw7⟩ : ∃ w7, w7 = ((((w6.setCell ⟨w.heap.size + 1, 0, none⟩ (.int .i64 1)).setCell ⟨w.heap.size + 1, 1, none⟩ (.int .i64 v.k)).setCell ⟨w.heap.size + 1, 2, none⟩ (.int .i64 v.n)).setCell ⟨w.heap.size + 1, 3, none⟩ (.string ⟨v.s.toArray⟩)).drew := ⟨_, rfl⟩
 have HB7 : Hid (w7.heap[w.heap.size + 1]? = some (.cells #[nv 1, nv v.k, nv v.n, sv v.s, sv [], sv [], nv 0, .slice none 0 0, nv p, nv q, nv z] 59 (0, 0))) := Lib.hid (by
  rw [hw7]
  exact heap_set' (heap_set' (heap_set' (heap_set' HB6.out _ 0 rfl) _ 1 rfl) _ 2 rfl) _ 3 rfl)
 have M7 : Hid (Mod [g] w w7) := Lib.hid (by
  rw [hw7]
  exact ((((HM6.out.set (.inr (by omega)) _).set (.inr (by omega)) _).set (.inr (by omega)) _).set (.inr (by omega)) _).drew)
 have P7 : Hid (Ps w7 g d l.tail) := Lib.hid (by
  rw [hw7]
  exact ((((P6.out.set (by omega) _).set (by omega) _).set (by omega) _).set (by omega) _).next (Below.refl _ _).drew)
 clear y0 y1 y2 y3 y4 y5 y6 y7 y8 y9 y10 fr0 fr1 fr2 fr3 fr4 fr5 fr6 fr7 fr8 fr9 fr10
 rw [← hw7]
 clear hw7 HB6 HM6 P6 HV6 v0 v1 v2
 obtain ⟨y, hy⟩ : ∃ y, y = Ex.val v := ⟨_, rfl⟩
 have hq : RT = .ok y l.tail := by rw [hy]; exact HRT.out.symm
 subst hq
 obtain ⟨⟨⟨⟨y0, y1⟩, y2, y3⟩, ⟨y4, y5⟩, y6, y7⟩, ⟨y8, y9⟩, y10⟩ := cells11 HB7.out
 obtain ⟨⟨⟨⟨fr0, fr1⟩, fr2, fr3⟩, ⟨fr4, fr5⟩, fr6, fr7⟩, ⟨fr8, fr9⟩, fr10⟩ := frozen11 HB7.out
 have X7 : Hid (ExR w7 (fun _ => False) y (exC y (.slice none 0 0) p q z)) := Lib.hid (by
  subst hy
  exact ExR.leaf rfl (Nat.zero_le _) rfl)
 have S7 : Hid (∀ b, (fun _ : Nat => False) b → w2.heap.size ≤ b ∧ b < w7.heap.size) := Lib.hid (fun _ h => h.elim)
 subst hy
 go_wp2_with fail
 refine bodyPost_ret (v := .agg #[nv 1, nv v.k, nv v.n, sv v.s, sv [], sv [], nv 0, .slice none 0 0, nv p, nv q, nv z]) (by simp [results, Tryz.results180, go_sem, y0, y1, y2, y3, y4, y5, y6, y7, y8, y9, y10]) rfl ?_
 refine ⟨?_, ?_, _, rfl, exC (.val v) (.slice none 0 0) p q z, fun _ => False, rfl, ?_, ?_⟩
 ·repeat (first | (with_reducible exact M7.out) | refine Mod.set ?_ (.inr (Nat.le_succ _)) _)
 ·repeat (first | (with_reducible exact P7.out) | refine Ps.set ?_ (Nat.lt_succ_of_lt hlt) _)
 ·repeat (first | (with_reducible exact X7.out) | refine ExR.set ?_ (fun h => h) _)
 ·exact fun b hb => hb.elim
theorem opd_par (f : Nat) (hE : EC f) (g d : Nat) (l : List Tok) (w : World) (h : Ps w g d l) (hd : d ≤ 16) (hno : pOperand (f + 1) d l ≠ .oof) (hl : pLit l = none) (h40 : isT l [40] = true) :
  Calls Tryz.prog 180 #[.pointer (some ⟨g, 0, none⟩)] w (Out [g] g d w (pOperand (f + 1) d l) (ExG w.heap.size)) := by
 have HE := Lib.hid hE
 have hmf : ∀ (fn : Fn) (first cap : Array Value) (w : World), (Instr.makeFunc fn first cap).run Tryz.prog w = .ok (.func fn first cap) w := fun _ _ _ _ => rfl
 obtain ⟨RT, hRT⟩ : ∃ RT, pOperand (f + 1) d l = RT := ⟨_, rfl⟩
 rw [hRT] at hno ⊢
 rw [pOperand_none hl] at hRT
 have HRT := Lib.hid hRT
 have HNO := Lib.hid hno
 have HS := Lib.hid h
 have hlt := h.lt
 clear hRT hno h
 clear hE
 have hR := HRT.out
 rw [h40] at hR
 simp only [if_true] at hR
 have HR := Lib.hid hR
 have HNA : Hid (d < 16 → pExpr f 0 (d + 1) l.tail ≠ .oof) := Lib.hid (fun hd2 => around_no (a := [40]) (b := [41]) (k := fun d r => pExpr f 0 d r) (by rw [hR]; exact HNO.out) h40 hd2)
 have hc1 := Tryz.call184
 clear hR HRT
 have HA : Hid (Below w.heap.size w ((w.alloc (.cells #[.pointer (some ⟨g, 0, none⟩)] 51)).alloc (.cells #[nv 0, nv 0, nv 0, sv [], sv [], sv [], nv 0, .slice none 0 0, nv 0, nv 0, nv 0] 59))) := Lib.hid (by repeat (first | exact Below.refl _ _ | refine Below.alloc ?_ (by simp <;> omega) _))
 have HB0 : Hid (((w.alloc (.cells #[.pointer (some ⟨g, 0, none⟩)] 51)).alloc (.cells #[nv 0, nv 0, nv 0, sv [], sv [], sv [], nv 0, .slice none 0 0, nv 0, nv 0, nv 0] 59)).heap[w.heap.size]? = some (.cells #[.pointer (some ⟨g, 0, none⟩)] 51 (0, 0))) := Lib.hid (alloc_old' (alloc_at rfl))
 have HB1 : Hid (((w.alloc (.cells #[.pointer (some ⟨g, 0, none⟩)] 51)).alloc (.cells #[nv 0, nv 0, nv 0, sv [], sv [], sv [], nv 0, .slice none 0 0, nv 0, nv 0, nv 0] 59)).heap[w.heap.size + 1]? = some (.cells #[nv 0, nv 0, nv 0, sv [], sv [], sv [], nv 0, .slice none 0 0, nv 0, nv 0, nv 0] 59 (0, 0))) := Lib.hid (alloc_at (by simp))
 have hz2 : ((w.alloc (.cells #[.pointer (some ⟨g, 0, none⟩)] 51)).alloc (.cells #[nv 0, nv 0, nv 0, sv [], sv [], sv [], nv 0, .slice none 0 0, nv 0, nv 0, nv 0] 59)).heap.size = w.heap.size + 2 := by simp
 go_enter Tryz.func180, Tryz.ntmps180
 go_wp2_with fail
 have HP2 := Lib.hid (HS.out.next HA.out)
 obtain ⟨w2, hw2⟩ : ∃ w2, ((w.alloc (.cells #[.pointer (some ⟨g, 0, none⟩)] 51)).alloc (.cells #[nv 0, nv 0, nv 0, sv [], sv [], sv [], nv 0, .slice none 0 0, nv 0, nv 0, nv 0] 59)) = w2 := ⟨_, rfl⟩
 rw [hw2] at HA HB0 HB1 hz2 HP2 ⊢
 clear hw2
 refine (here_any g d l _ HP2.out).mono ?_; rintro e w3 ⟨⟨p, q, z, rfl⟩, b3⟩
 have hb1 := box_next HB1.out b3
 obtain ⟨⟨⟨⟨y0, y1⟩, y2, y3⟩, ⟨y4, y5⟩, y6, y7⟩, ⟨y8, y9⟩, y10⟩ := cells11 hb1
 obtain ⟨⟨⟨⟨fr0, fr1⟩, fr2, fr3⟩, ⟨fr4, fr5⟩, fr6, fr7⟩, ⟨fr8, fr9⟩, fr10⟩ := frozen11 hb1
 have q0 : w3.cell? ⟨w.heap.size, 0, none⟩ = some (.pointer (some ⟨g, 0, none⟩)) := by rw [Lib.cell_of_heap (box_next HB0.out b3)]; rfl
 have hs3 := b3.size
 go_wp2_with fail
 have HB4 : Hid ((((w3.setCell ⟨w.heap.size + 1, 8, none⟩ (.int .i64 p)).setCell ⟨w.heap.size + 1, 9, none⟩ (.int .i64 q)).setCell ⟨w.heap.size + 1, 10, none⟩ (.int .i64 z)).heap[w.heap.size + 1]? = some (.cells #[nv 0, nv 0, nv 0, sv [], sv [], sv [], nv 0, .slice none 0 0, nv p, nv q, nv z] 59 (0, 0))) := Lib.hid (heap_set' (heap_set' (heap_set' hb1 _ 8 rfl) _ 9 rfl) _ 10 rfl)
 have HM4 : Hid (Mod [g] w (((w3.setCell ⟨w.heap.size + 1, 8, none⟩ (.int .i64 p)).setCell ⟨w.heap.size + 1, 9, none⟩ (.int .i64 q)).setCell ⟨w.heap.size + 1, 10, none⟩ (.int .i64 z))) := Lib.hid (((((Mod.of_below HA.out).then (.of_below b3)).set (.inr (by omega)) _).set (.inr (by omega)) _).set (.inr (by omega)) _)
 have HP4 := Lib.hid ((((HP2.out.next b3).set (b := w.heap.size + 1) (i := 8) (by omega) (.int .i64 p)).set (b := w.heap.size + 1) (i := 9) (by omega) (.int .i64 q)).set (b := w.heap.size + 1) (i := 10) (by omega) (.int .i64 z))
 have HB04 : Hid ((((w3.setCell ⟨w.heap.size + 1, 8, none⟩ (.int .i64 p)).setCell ⟨w.heap.size + 1, 9, none⟩ (.int .i64 q)).setCell ⟨w.heap.size + 1, 10, none⟩ (.int .i64 z)).heap[w.heap.size]? = some (.cells #[.pointer (some ⟨g, 0, none⟩)] 51 (0, 0))) := Lib.hid (by
  rw [Below.heap_setCell _ _ _ _ (by simp only; omega), Below.heap_setCell _ _ _ _ (by simp only; omega), Below.heap_setCell _ _ _ _ (by simp only; omega)]
  exact box_next HB0.out b3)
 have hz4 : (((w3.setCell ⟨w.heap.size + 1, 8, none⟩ (.int .i64 p)).setCell ⟨w.heap.size + 1, 9, none⟩ (.int .i64 q)).setCell ⟨w.heap.size + 1, 10, none⟩ (.int .i64 z)).heap.size = w3.heap.size := by simp
 obtain ⟨w4, hw4⟩ : ∃ w4, (((w3.setCell ⟨w.heap.size + 1, 8, none⟩ (.int .i64 p)).setCell ⟨w.heap.size + 1, 9, none⟩ (.int .i64 q)).setCell ⟨w.heap.size + 1, 10, none⟩ (.int .i64 z)) = w4 := ⟨_, rfl⟩
 rw [hw4] at HB4 HM4 HP4 HB04 hz4 ⊢
 clear hw4 b3 hb1 HB0 HB1 HA HP2 q0
 clear y0 y1 y2 y3 y4 y5 y6 y7 y8 y9 y10 fr0 fr1 fr2 fr3 fr4 fr5 fr6 fr7 fr8 fr9 fr10
 refine (literal_any g d l _ HP4.out).mono ?_; rintro e w5 ⟨m5, h5⟩
 rw [hl] at h5
 have HB5 := Lib.hid (m5.box HB4.out (by simp; omega))
 have HB05 := Lib.hid (m5.box HB04.out (by simp; omega))
 have HM5 := Lib.hid (HM4.out.then m5)
 have hs5 := m5.size
 clear m5 HB4 HB04 HM4 HP4
 obtain ⟨⟨a0, a1, a2, rfl⟩, p5⟩ := h5
 have P5 := Lib.hid p5
 clear p5
 have q0 : w5.cell? ⟨w.heap.size, 0, none⟩ = some (.pointer (some ⟨g, 0, none⟩)) := by rw [Lib.cell_of_heap HB05.out]; rfl
 have hs05 : w.heap.size < w5.heap.size := by omega
 go_wp2_with fail
 have HB6 := Lib.hid (alloc_old' (o := .cells #[nv a0, nv a1, sv a2] 57) HB5.out)
 have HB06 := Lib.hid (alloc_old' (o := .cells #[nv a0, nv a1, sv a2] 57) HB05.out)
 have HM6 := Lib.hid (HM5.out.alloc (.cells #[nv a0, nv a1, sv a2] 57))
 have P6 := Lib.hid (P5.out.alloc (.cells #[nv a0, nv a1, sv a2] 57))
 have hz6 : (w5.alloc (.cells #[nv a0, nv a1, sv a2] 57)).heap.size = w5.heap.size + 1 := by simp
 clear HB5 HB05 HM5 P5 q0
 generalize (w5.alloc (.cells #[nv a0, nv a1, sv a2] 57)) = w6 at *
 have q6 : w6.cell? ⟨w.heap.size, 0, none⟩ = some (.pointer (some ⟨g, 0, none⟩)) := by rw [Lib.cell_of_heap HB06.out]; rfl
 refine (is_any g d l [40] _ P6.out).mono ?_; rintro e w7 ⟨rfl, rfl⟩
 rw [h40]
 go_wp2_with fail
 refine (around_any (α := Ex) g d l [40] [41] 184 #[.pointer (some ⟨w.heap.size, 0, none⟩), .pointer (some ⟨w.heap.size + 1, 0, none⟩)] [g, w.heap.size + 1] (fun d r => pExpr f 0 d r) (GX w7.heap.size (w.heap.size + 1)) w7 P6.out hd (by simp) (fun x hx => by simp at hx; omega) hc1 (fun hi hd2 W mW pW => ?_)).mono ?_
 ·refine (operand1_any f HE.out g (d + 1) w.heap.size (w.heap.size + 1) l.tail _ _ _ _ _ _ _ _ _ _ _ W pW hd2 (HNA.out hd2) (mW.box HB06.out (by simp; omega)) (mW.box HB6.out (by simp; omega)) (by omega)).mono fun e w' ho => ho.imp fun y W' v hg => ⟨hg.1, hg.2.more mW.size⟩
 rintro e w8 ⟨m8, h8⟩
 rw [show Y.around [40] [41] d l (fun d r => pExpr f 0 d r) = RT from HR.out] at h8
 have M7 : Hid (Mod [g] w w8) := Lib.hid (HM6.out.trans m8 (fun x hx => by
  simp at hx
  rcases hx with rfl | rfl
  ·exact .inl (by simp)
  ·exact .inr (by omega)))
 clear m8
 cases RT with
 | oof => exact h8.elim
 | bad =>
  obtain ⟨er, ep, eq, ez, hne, rfl⟩ := h8
  have HN := Lib.hid hne
  clear hne
  go_wp2_with fail
  exact ⟨rfl, M7.out, er, ep, eq, ez, HN.out, rfl⟩
 | ok y r =>
  obtain ⟨p8, v, rfl, rfl, W7, hG, m9⟩ := h8
  obtain ⟨vs, S, e1, e2, e3⟩ := hG.mod m9 (by omega) (by omega)
  have P7 := Lib.hid p8
  clear p8 hG m9
  obtain ⟨A, n, c, p', q', z', rfl⟩ := e2.form
  have HB7 : Hid (w8.heap[w.heap.size + 1]? = some (.cells #[nv (hdK y), nv (hdV y).k, nv (hdV y).n, sv (hdV y).s, sv (hdN y), sv (hdC y), nv (hdO y : Nat), .slice A n c, nv p', nv q', nv z'] 59 (0, 0))) := Lib.hid e1
  have X7 := Lib.hid e2
  have S7 : Hid (∀ b, S b → w2.heap.size ≤ b ∧ b < w8.heap.size) := Lib.hid (fun b hb => by have := e3 b hb; omega)
  clear e1 e2 e3
  obtain ⟨⟨⟨⟨y0, y1⟩, y2, y3⟩, ⟨y4, y5⟩, y6, y7⟩, ⟨y8, y9⟩, y10⟩ := cells11 HB7.out
  obtain ⟨⟨⟨⟨fr0, fr1⟩, fr2, fr3⟩, ⟨fr4, fr5⟩, fr6, fr7⟩, ⟨fr8, fr9⟩, fr10⟩ := frozen11 HB7.out
  go_wp2_with fail
  refine bodyPost_ret (v := .agg #[nv (hdK y), nv (hdV y).k, nv (hdV y).n, sv (hdV y).s, sv (hdN y), sv (hdC y), nv (hdO y : Nat), .slice A n c, nv p', nv q', nv z']) (by simp [results, Tryz.results180, go_sem, y0, y1, y2, y3, y4, y5, y6, y7, y8, y9, y10]) rfl ?_
  have hns : ¬ S (w.heap.size + 1) := fun hh => by have := S7.out _ hh; omega
  refine ⟨?_, ?_, _, rfl, exC y (.slice A n c) p' q' z', S, rfl, ?_, ?_⟩
  ·repeat (first | (with_reducible exact M7.out) | refine Mod.set ?_ (.inr (Nat.le_succ _)) _)
  ·repeat (first | (with_reducible exact P7.out) | refine Ps.set ?_ (Nat.lt_succ_of_lt hlt) _)
  ·repeat (first | (with_reducible exact X7.out) | refine ExR.set ?_ hns _)
  ·intro b hb
   have := S7.out b hb
   simp
   omega
theorem opd_has (f : Nat) (hE : EC f) (g d : Nat) (l : List Tok) (w : World) (h : Ps w g d l) (hd : d ≤ 16) (hno : pOperand (f + 1) d l ≠ .oof) (hl : pLit l = none) (h40 : isT l [40] = false) (hh : isT l w_has = true) :
  Calls Tryz.prog 180 #[.pointer (some ⟨g, 0, none⟩)] w (Out [g] g d w (pOperand (f + 1) d l) (ExG w.heap.size)) := by
 have HE := Lib.hid hE
 have hmf : ∀ (fn : Fn) (first cap : Array Value) (w : World), (Instr.makeFunc fn first cap).run Tryz.prog w = .ok (.func fn first cap) w := fun _ _ _ _ => rfl
 obtain ⟨RT, hRT⟩ : ∃ RT, pOperand (f + 1) d l = RT := ⟨_, rfl⟩
 rw [hRT] at hno ⊢
 rw [pOperand_none hl] at hRT
 have HRT := Lib.hid hRT
 have HNO := Lib.hid hno
 have HS := Lib.hid h
 have hlt := h.lt
 clear hRT hno h
 clear hE
 have hR := HRT.out
 rw [h40, hh] at hR
 simp only [Bool.false_eq_true, if_false, if_true] at hR
 have HR := Lib.hid hR
 clear hR HRT
 have HA : Hid (Below w.heap.size w ((w.alloc (.cells #[.pointer (some ⟨g, 0, none⟩)] 51)).alloc (.cells #[nv 0, nv 0, nv 0, sv [], sv [], sv [], nv 0, .slice none 0 0, nv 0, nv 0, nv 0] 59))) := Lib.hid (by repeat (first | exact Below.refl _ _ | refine Below.alloc ?_ (by simp <;> omega) _))
 have HB0 : Hid (((w.alloc (.cells #[.pointer (some ⟨g, 0, none⟩)] 51)).alloc (.cells #[nv 0, nv 0, nv 0, sv [], sv [], sv [], nv 0, .slice none 0 0, nv 0, nv 0, nv 0] 59)).heap[w.heap.size]? = some (.cells #[.pointer (some ⟨g, 0, none⟩)] 51 (0, 0))) := Lib.hid (alloc_old' (alloc_at rfl))
 have HB1 : Hid (((w.alloc (.cells #[.pointer (some ⟨g, 0, none⟩)] 51)).alloc (.cells #[nv 0, nv 0, nv 0, sv [], sv [], sv [], nv 0, .slice none 0 0, nv 0, nv 0, nv 0] 59)).heap[w.heap.size + 1]? = some (.cells #[nv 0, nv 0, nv 0, sv [], sv [], sv [], nv 0, .slice none 0 0, nv 0, nv 0, nv 0] 59 (0, 0))) := Lib.hid (alloc_at (by simp))
 have hz2 : ((w.alloc (.cells #[.pointer (some ⟨g, 0, none⟩)] 51)).alloc (.cells #[nv 0, nv 0, nv 0, sv [], sv [], sv [], nv 0, .slice none 0 0, nv 0, nv 0, nv 0] 59)).heap.size = w.heap.size + 2 := by simp
 go_enter Tryz.func180, Tryz.ntmps180
 go_wp2_with fail
 have HP2 := Lib.hid (HS.out.next HA.out)
 obtain ⟨w2, hw2⟩ : ∃ w2, ((w.alloc (.cells #[.pointer (some ⟨g, 0, none⟩)] 51)).alloc (.cells #[nv 0, nv 0, nv 0, sv [], sv [], sv [], nv 0, .slice none 0 0, nv 0, nv 0, nv 0] 59)) = w2 := ⟨_, rfl⟩
 rw [hw2] at HA HB0 HB1 hz2 HP2 ⊢
 clear hw2
 refine (here_any g d l _ HP2.out).mono ?_; rintro e w3 ⟨⟨p, q, z, rfl⟩, b3⟩
 have hb1 := box_next HB1.out b3
 obtain ⟨⟨⟨⟨y0, y1⟩, y2, y3⟩, ⟨y4, y5⟩, y6, y7⟩, ⟨y8, y9⟩, y10⟩ := cells11 hb1
 obtain ⟨⟨⟨⟨fr0, fr1⟩, fr2, fr3⟩, ⟨fr4, fr5⟩, fr6, fr7⟩, ⟨fr8, fr9⟩, fr10⟩ := frozen11 hb1
 have q0 : w3.cell? ⟨w.heap.size, 0, none⟩ = some (.pointer (some ⟨g, 0, none⟩)) := by rw [Lib.cell_of_heap (box_next HB0.out b3)]; rfl
 have hs3 := b3.size
 go_wp2_with fail
 have HB4 : Hid ((((w3.setCell ⟨w.heap.size + 1, 8, none⟩ (.int .i64 p)).setCell ⟨w.heap.size + 1, 9, none⟩ (.int .i64 q)).setCell ⟨w.heap.size + 1, 10, none⟩ (.int .i64 z)).heap[w.heap.size + 1]? = some (.cells #[nv 0, nv 0, nv 0, sv [], sv [], sv [], nv 0, .slice none 0 0, nv p, nv q, nv z] 59 (0, 0))) := Lib.hid (heap_set' (heap_set' (heap_set' hb1 _ 8 rfl) _ 9 rfl) _ 10 rfl)
 have HM4 : Hid (Mod [g] w (((w3.setCell ⟨w.heap.size + 1, 8, none⟩ (.int .i64 p)).setCell ⟨w.heap.size + 1, 9, none⟩ (.int .i64 q)).setCell ⟨w.heap.size + 1, 10, none⟩ (.int .i64 z))) := Lib.hid (((((Mod.of_below HA.out).then (.of_below b3)).set (.inr (by omega)) _).set (.inr (by omega)) _).set (.inr (by omega)) _)
 have HP4 := Lib.hid ((((HP2.out.next b3).set (b := w.heap.size + 1) (i := 8) (by omega) (.int .i64 p)).set (b := w.heap.size + 1) (i := 9) (by omega) (.int .i64 q)).set (b := w.heap.size + 1) (i := 10) (by omega) (.int .i64 z))
 have HB04 : Hid ((((w3.setCell ⟨w.heap.size + 1, 8, none⟩ (.int .i64 p)).setCell ⟨w.heap.size + 1, 9, none⟩ (.int .i64 q)).setCell ⟨w.heap.size + 1, 10, none⟩ (.int .i64 z)).heap[w.heap.size]? = some (.cells #[.pointer (some ⟨g, 0, none⟩)] 51 (0, 0))) := Lib.hid (by
  rw [Below.heap_setCell _ _ _ _ (by simp only; omega), Below.heap_setCell _ _ _ _ (by simp only; omega), Below.heap_setCell _ _ _ _ (by simp only; omega)]
  exact box_next HB0.out b3)
 have hz4 : (((w3.setCell ⟨w.heap.size + 1, 8, none⟩ (.int .i64 p)).setCell ⟨w.heap.size + 1, 9, none⟩ (.int .i64 q)).setCell ⟨w.heap.size + 1, 10, none⟩ (.int .i64 z)).heap.size = w3.heap.size := by simp
 obtain ⟨w4, hw4⟩ : ∃ w4, (((w3.setCell ⟨w.heap.size + 1, 8, none⟩ (.int .i64 p)).setCell ⟨w.heap.size + 1, 9, none⟩ (.int .i64 q)).setCell ⟨w.heap.size + 1, 10, none⟩ (.int .i64 z)) = w4 := ⟨_, rfl⟩
 rw [hw4] at HB4 HM4 HP4 HB04 hz4 ⊢
 clear hw4 b3 hb1 HB0 HB1 HA HP2 q0
 clear y0 y1 y2 y3 y4 y5 y6 y7 y8 y9 y10 fr0 fr1 fr2 fr3 fr4 fr5 fr6 fr7 fr8 fr9 fr10
 refine (literal_any g d l _ HP4.out).mono ?_; rintro e w5 ⟨m5, h5⟩
 rw [hl] at h5
 have HB5 := Lib.hid (m5.box HB4.out (by simp; omega))
 have HB05 := Lib.hid (m5.box HB04.out (by simp; omega))
 have HM5 := Lib.hid (HM4.out.then m5)
 have hs5 := m5.size
 clear m5 HB4 HB04 HM4 HP4
 obtain ⟨⟨a0, a1, a2, rfl⟩, p5⟩ := h5
 have P5 := Lib.hid p5
 clear p5
 have q0 : w5.cell? ⟨w.heap.size, 0, none⟩ = some (.pointer (some ⟨g, 0, none⟩)) := by rw [Lib.cell_of_heap HB05.out]; rfl
 have hs05 : w.heap.size < w5.heap.size := by omega
 go_wp2_with fail
 have HB6 := Lib.hid (alloc_old' (o := .cells #[nv a0, nv a1, sv a2] 57) HB5.out)
 have HB06 := Lib.hid (alloc_old' (o := .cells #[nv a0, nv a1, sv a2] 57) HB05.out)
 have HM6 := Lib.hid (HM5.out.alloc (.cells #[nv a0, nv a1, sv a2] 57))
 have P6 := Lib.hid (P5.out.alloc (.cells #[nv a0, nv a1, sv a2] 57))
 have hz6 : (w5.alloc (.cells #[nv a0, nv a1, sv a2] 57)).heap.size = w5.heap.size + 1 := by simp
 clear HB5 HB05 HM5 P5 q0
 generalize (w5.alloc (.cells #[nv a0, nv a1, sv a2] 57)) = w6 at *
 have q6 : w6.cell? ⟨w.heap.size, 0, none⟩ = some (.pointer (some ⟨g, 0, none⟩)) := by rw [Lib.cell_of_heap HB06.out]; rfl
 refine (is_any g d l [40] _ P6.out).mono ?_; rintro e w7 ⟨rfl, rfl⟩
 rw [h40]
 go_wp2_with fail
 refine (take_any g d l w_has w7 P6.out).mono ?_; rintro e w8 ⟨rfl, mt, pt⟩
 rw [hh] at pt ⊢
 simp only [if_true, if_false, Bool.false_eq_true] at pt
 have HBt := Lib.hid (mt.box HB6.out (by simp; omega))
 have HB0t := Lib.hid (mt.box HB06.out (by simp; omega))
 have HMt := Lib.hid (HM6.out.then mt)
 have Pt := Lib.hid pt
 have hst := mt.size
 have qt : w8.cell? ⟨w.heap.size, 0, none⟩ = some (.pointer (some ⟨g, 0, none⟩)) := by rw [Lib.cell_of_heap HB0t.out]; rfl
 clear mt pt HB6 HB06 HM6 P6
 go_wp2_with fail
 obtain ⟨wt, hwt⟩ : ∃ wt, w8 = wt := ⟨_, rfl⟩
 rw [hwt] at HBt HB0t HMt Pt hst qt ⊢
 clear hwt
 have hnoC := bind_no HR.out HNO.out
 refine (call_any f HE.out g d (w.heap.size + 1) 4 1 p q z l.tail wt Pt.out hd hnoC HBt.out (by omega) (by omega)).mono ?_; rintro e wq ⟨mq, hq⟩
 have M7 : Hid (Mod [g] w wq) := Lib.hid (HMt.out.trans mq (fun x hx => by
  simp at hx
  rcases hx with rfl | rfl
  ·exact .inl (by simp)
  ·exact .inr (by omega)))
 clear mq
 cases hp : pCall f 4 1 d l.tail with
 | oof => exact absurd hp hnoC
 | bad =>
  rw [hp] at hq
  have hrt : RT = .bad := by have := HR.out; rw [hp] at this; exact this.symm
  subst hrt
  obtain ⟨er, ep, eq, ez, hne, rfl⟩ := hq
  have HN := Lib.hid hne
  clear hne
  go_wp2_with fail
  exact ⟨rfl, M7.out, er, ep, eq, ez, HN.out, rfl⟩
 | ok t r =>
  rw [hp] at hq
  obtain ⟨p8, v, rfl, rfl, hG⟩ := hq
  have hln := pCall_len hp
  have hcl := pCall_col hp
  obtain ⟨y, hy⟩ : ∃ y, y = Ex.has t.1 (t.2.2.getD 0 (.var [])) := ⟨_, rfl⟩
  have hrt : RT = .ok y r := by rw [hy]; have := HR.out; rw [hp] at this; exact this.symm
  subst hrt
  have hGX : GX wt.heap.size (w.heap.size + 1) y wq := by
   rw [hy]
   exact hG.gx _ rfl rfl rfl rfl ((hcl.resolve_left (by decide)).symm) (by match t, hln with | (a, b, [x]), _ => rfl)
  clear hG hy hp hnoC hln hcl
  obtain ⟨vs, S, e1, e2, e3⟩ := hGX
  have P7 := Lib.hid p8
  obtain ⟨w8, hw8⟩ : ∃ w8, wq = w8 := ⟨_, rfl⟩
  rw [hw8] at M7 P7 e1 e2 e3 ⊢
  have hzt : w2.heap.size ≤ wt.heap.size := by omega
  clear hw8 p8
  obtain ⟨A, n, c, p', q', z', rfl⟩ := e2.form
  have HB7 : Hid (w8.heap[w.heap.size + 1]? = some (.cells #[nv (hdK y), nv (hdV y).k, nv (hdV y).n, sv (hdV y).s, sv (hdN y), sv (hdC y), nv (hdO y : Nat), .slice A n c, nv p', nv q', nv z'] 59 (0, 0))) := Lib.hid e1
  have X7 := Lib.hid e2
  have S7 : Hid (∀ b, S b → w2.heap.size ≤ b ∧ b < w8.heap.size) := Lib.hid (fun b hb => by have := e3 b hb; omega)
  clear e1 e2 e3
  obtain ⟨⟨⟨⟨y0, y1⟩, y2, y3⟩, ⟨y4, y5⟩, y6, y7⟩, ⟨y8, y9⟩, y10⟩ := cells11 HB7.out
  obtain ⟨⟨⟨⟨fr0, fr1⟩, fr2, fr3⟩, ⟨fr4, fr5⟩, fr6, fr7⟩, ⟨fr8, fr9⟩, fr10⟩ := frozen11 HB7.out
  go_wp2_with fail
  refine bodyPost_ret (v := .agg #[nv (hdK y), nv (hdV y).k, nv (hdV y).n, sv (hdV y).s, sv (hdN y), sv (hdC y), nv (hdO y : Nat), .slice A n c, nv p', nv q', nv z']) (by simp [results, Tryz.results180, go_sem, y0, y1, y2, y3, y4, y5, y6, y7, y8, y9, y10]) rfl ?_
  have hns : ¬ S (w.heap.size + 1) := fun hh => by have := S7.out _ hh; omega
  refine ⟨?_, ?_, _, rfl, exC y (.slice A n c) p' q' z', S, rfl, ?_, ?_⟩
  ·repeat (first | (with_reducible exact M7.out) | refine Mod.set ?_ (.inr (Nat.le_succ _)) _)
  ·repeat (first | (with_reducible exact P7.out) | refine Ps.set ?_ (Nat.lt_succ_of_lt hlt) _)
  ·repeat (first | (with_reducible exact X7.out) | refine ExR.set ?_ hns _)
  ·intro b hb
   have := S7.out b hb
   simp
   omega
theorem opd_sum (f : Nat) (hE : EC f) (g d : Nat) (l : List Tok) (w : World) (h : Ps w g d l) (hd : d ≤ 16) (hno : pOperand (f + 1) d l ≠ .oof) (hl : pLit l = none) (h40 : isT l [40] = false) (hh : isT l w_has = false) (hs : isT l w_sum = true) :
  Calls Tryz.prog 180 #[.pointer (some ⟨g, 0, none⟩)] w (Out [g] g d w (pOperand (f + 1) d l) (ExG w.heap.size)) := by
 have HE := Lib.hid hE
 have hmf : ∀ (fn : Fn) (first cap : Array Value) (w : World), (Instr.makeFunc fn first cap).run Tryz.prog w = .ok (.func fn first cap) w := fun _ _ _ _ => rfl
 obtain ⟨RT, hRT⟩ : ∃ RT, pOperand (f + 1) d l = RT := ⟨_, rfl⟩
 rw [hRT] at hno ⊢
 rw [pOperand_none hl] at hRT
 have HRT := Lib.hid hRT
 have HNO := Lib.hid hno
 have HS := Lib.hid h
 have hlt := h.lt
 clear hRT hno h
 clear hE
 have hR := HRT.out
 rw [h40, hh, hs] at hR
 simp only [Bool.false_eq_true, if_false, if_true] at hR
 have HR := Lib.hid hR
 clear hR HRT
 have HA : Hid (Below w.heap.size w ((w.alloc (.cells #[.pointer (some ⟨g, 0, none⟩)] 51)).alloc (.cells #[nv 0, nv 0, nv 0, sv [], sv [], sv [], nv 0, .slice none 0 0, nv 0, nv 0, nv 0] 59))) := Lib.hid (by repeat (first | exact Below.refl _ _ | refine Below.alloc ?_ (by simp <;> omega) _))
 have HB0 : Hid (((w.alloc (.cells #[.pointer (some ⟨g, 0, none⟩)] 51)).alloc (.cells #[nv 0, nv 0, nv 0, sv [], sv [], sv [], nv 0, .slice none 0 0, nv 0, nv 0, nv 0] 59)).heap[w.heap.size]? = some (.cells #[.pointer (some ⟨g, 0, none⟩)] 51 (0, 0))) := Lib.hid (alloc_old' (alloc_at rfl))
 have HB1 : Hid (((w.alloc (.cells #[.pointer (some ⟨g, 0, none⟩)] 51)).alloc (.cells #[nv 0, nv 0, nv 0, sv [], sv [], sv [], nv 0, .slice none 0 0, nv 0, nv 0, nv 0] 59)).heap[w.heap.size + 1]? = some (.cells #[nv 0, nv 0, nv 0, sv [], sv [], sv [], nv 0, .slice none 0 0, nv 0, nv 0, nv 0] 59 (0, 0))) := Lib.hid (alloc_at (by simp))
 have hz2 : ((w.alloc (.cells #[.pointer (some ⟨g, 0, none⟩)] 51)).alloc (.cells #[nv 0, nv 0, nv 0, sv [], sv [], sv [], nv 0, .slice none 0 0, nv 0, nv 0, nv 0] 59)).heap.size = w.heap.size + 2 := by simp
 go_enter Tryz.func180, Tryz.ntmps180
 go_wp2_with fail
 have HP2 := Lib.hid (HS.out.next HA.out)
 obtain ⟨w2, hw2⟩ : ∃ w2, ((w.alloc (.cells #[.pointer (some ⟨g, 0, none⟩)] 51)).alloc (.cells #[nv 0, nv 0, nv 0, sv [], sv [], sv [], nv 0, .slice none 0 0, nv 0, nv 0, nv 0] 59)) = w2 := ⟨_, rfl⟩
 rw [hw2] at HA HB0 HB1 hz2 HP2 ⊢
 clear hw2
 refine (here_any g d l _ HP2.out).mono ?_; rintro e w3 ⟨⟨p, q, z, rfl⟩, b3⟩
 have hb1 := box_next HB1.out b3
 obtain ⟨⟨⟨⟨y0, y1⟩, y2, y3⟩, ⟨y4, y5⟩, y6, y7⟩, ⟨y8, y9⟩, y10⟩ := cells11 hb1
 obtain ⟨⟨⟨⟨fr0, fr1⟩, fr2, fr3⟩, ⟨fr4, fr5⟩, fr6, fr7⟩, ⟨fr8, fr9⟩, fr10⟩ := frozen11 hb1
 have q0 : w3.cell? ⟨w.heap.size, 0, none⟩ = some (.pointer (some ⟨g, 0, none⟩)) := by rw [Lib.cell_of_heap (box_next HB0.out b3)]; rfl
 have hs3 := b3.size
 go_wp2_with fail
 have HB4 : Hid ((((w3.setCell ⟨w.heap.size + 1, 8, none⟩ (.int .i64 p)).setCell ⟨w.heap.size + 1, 9, none⟩ (.int .i64 q)).setCell ⟨w.heap.size + 1, 10, none⟩ (.int .i64 z)).heap[w.heap.size + 1]? = some (.cells #[nv 0, nv 0, nv 0, sv [], sv [], sv [], nv 0, .slice none 0 0, nv p, nv q, nv z] 59 (0, 0))) := Lib.hid (heap_set' (heap_set' (heap_set' hb1 _ 8 rfl) _ 9 rfl) _ 10 rfl)
 have HM4 : Hid (Mod [g] w (((w3.setCell ⟨w.heap.size + 1, 8, none⟩ (.int .i64 p)).setCell ⟨w.heap.size + 1, 9, none⟩ (.int .i64 q)).setCell ⟨w.heap.size + 1, 10, none⟩ (.int .i64 z))) := Lib.hid (((((Mod.of_below HA.out).then (.of_below b3)).set (.inr (by omega)) _).set (.inr (by omega)) _).set (.inr (by omega)) _)
 have HP4 := Lib.hid ((((HP2.out.next b3).set (b := w.heap.size + 1) (i := 8) (by omega) (.int .i64 p)).set (b := w.heap.size + 1) (i := 9) (by omega) (.int .i64 q)).set (b := w.heap.size + 1) (i := 10) (by omega) (.int .i64 z))
 have HB04 : Hid ((((w3.setCell ⟨w.heap.size + 1, 8, none⟩ (.int .i64 p)).setCell ⟨w.heap.size + 1, 9, none⟩ (.int .i64 q)).setCell ⟨w.heap.size + 1, 10, none⟩ (.int .i64 z)).heap[w.heap.size]? = some (.cells #[.pointer (some ⟨g, 0, none⟩)] 51 (0, 0))) := Lib.hid (by
  rw [Below.heap_setCell _ _ _ _ (by simp only; omega), Below.heap_setCell _ _ _ _ (by simp only; omega), Below.heap_setCell _ _ _ _ (by simp only; omega)]
  exact box_next HB0.out b3)
 have hz4 : (((w3.setCell ⟨w.heap.size + 1, 8, none⟩ (.int .i64 p)).setCell ⟨w.heap.size + 1, 9, none⟩ (.int .i64 q)).setCell ⟨w.heap.size + 1, 10, none⟩ (.int .i64 z)).heap.size = w3.heap.size := by simp
 obtain ⟨w4, hw4⟩ : ∃ w4, (((w3.setCell ⟨w.heap.size + 1, 8, none⟩ (.int .i64 p)).setCell ⟨w.heap.size + 1, 9, none⟩ (.int .i64 q)).setCell ⟨w.heap.size + 1, 10, none⟩ (.int .i64 z)) = w4 := ⟨_, rfl⟩
 rw [hw4] at HB4 HM4 HP4 HB04 hz4 ⊢
 clear hw4 b3 hb1 HB0 HB1 HA HP2 q0
 clear y0 y1 y2 y3 y4 y5 y6 y7 y8 y9 y10 fr0 fr1 fr2 fr3 fr4 fr5 fr6 fr7 fr8 fr9 fr10
 refine (literal_any g d l _ HP4.out).mono ?_; rintro e w5 ⟨m5, h5⟩
 rw [hl] at h5
 have HB5 := Lib.hid (m5.box HB4.out (by simp; omega))
 have HB05 := Lib.hid (m5.box HB04.out (by simp; omega))
 have HM5 := Lib.hid (HM4.out.then m5)
 have hs5 := m5.size
 clear m5 HB4 HB04 HM4 HP4
 obtain ⟨⟨a0, a1, a2, rfl⟩, p5⟩ := h5
 have P5 := Lib.hid p5
 clear p5
 have q0 : w5.cell? ⟨w.heap.size, 0, none⟩ = some (.pointer (some ⟨g, 0, none⟩)) := by rw [Lib.cell_of_heap HB05.out]; rfl
 have hs05 : w.heap.size < w5.heap.size := by omega
 go_wp2_with fail
 have HB6 := Lib.hid (alloc_old' (o := .cells #[nv a0, nv a1, sv a2] 57) HB5.out)
 have HB06 := Lib.hid (alloc_old' (o := .cells #[nv a0, nv a1, sv a2] 57) HB05.out)
 have HM6 := Lib.hid (HM5.out.alloc (.cells #[nv a0, nv a1, sv a2] 57))
 have P6 := Lib.hid (P5.out.alloc (.cells #[nv a0, nv a1, sv a2] 57))
 have hz6 : (w5.alloc (.cells #[nv a0, nv a1, sv a2] 57)).heap.size = w5.heap.size + 1 := by simp
 clear HB5 HB05 HM5 P5 q0
 generalize (w5.alloc (.cells #[nv a0, nv a1, sv a2] 57)) = w6 at *
 have q6 : w6.cell? ⟨w.heap.size, 0, none⟩ = some (.pointer (some ⟨g, 0, none⟩)) := by rw [Lib.cell_of_heap HB06.out]; rfl
 refine (is_any g d l [40] _ P6.out).mono ?_; rintro e w7 ⟨rfl, rfl⟩
 rw [h40]
 go_wp2_with fail
 refine (take_any g d l w_has w7 P6.out).mono ?_; rintro e w9 ⟨rfl, mt, pt⟩
 rw [hh] at pt ⊢
 simp only [if_false, Bool.false_eq_true] at pt
 replace HB6 := Lib.hid (mt.box HB6.out (by simp; omega))
 replace HB06 := Lib.hid (mt.box HB06.out (by simp; omega))
 replace HM6 := Lib.hid (HM6.out.then mt)
 have P6' := Lib.hid pt
 have hst9 := mt.size
 clear mt pt P6
 have P6 := P6'
 clear P6'
 have qt9 : w9.cell? ⟨w.heap.size, 0, none⟩ = some (.pointer (some ⟨g, 0, none⟩)) := by rw [Lib.cell_of_heap HB06.out]; rfl
 go_wp2_with fail
 refine (take_any g d l w_sum w9 P6.out).mono ?_; rintro e w8 ⟨rfl, mt, pt⟩
 rw [hs] at pt ⊢
 simp only [if_true, if_false, Bool.false_eq_true] at pt
 have HBt := Lib.hid (mt.box HB6.out (by simp; omega))
 have HB0t := Lib.hid (mt.box HB06.out (by simp; omega))
 have HMt := Lib.hid (HM6.out.then mt)
 have Pt := Lib.hid pt
 have hst := mt.size
 have qt : w8.cell? ⟨w.heap.size, 0, none⟩ = some (.pointer (some ⟨g, 0, none⟩)) := by rw [Lib.cell_of_heap HB0t.out]; rfl
 clear mt pt HB6 HB06 HM6 P6
 go_wp2_with fail
 obtain ⟨wt, hwt⟩ : ∃ wt, w8 = wt := ⟨_, rfl⟩
 rw [hwt] at HBt HB0t HMt Pt hst qt ⊢
 clear hwt
 have hnoC := bind_no HR.out HNO.out
 refine (call_any f HE.out g d (w.heap.size + 1) 5 2 p q z l.tail wt Pt.out hd hnoC HBt.out (by omega) (by omega)).mono ?_; rintro e wq ⟨mq, hq⟩
 have M7 : Hid (Mod [g] w wq) := Lib.hid (HMt.out.trans mq (fun x hx => by
  simp at hx
  rcases hx with rfl | rfl
  ·exact .inl (by simp)
  ·exact .inr (by omega)))
 clear mq
 cases hp : pCall f 5 2 d l.tail with
 | oof => exact absurd hp hnoC
 | bad =>
  rw [hp] at hq
  have hrt : RT = .bad := by have := HR.out; rw [hp] at this; exact this.symm
  subst hrt
  obtain ⟨er, ep, eq, ez, hne, rfl⟩ := hq
  have HN := Lib.hid hne
  clear hne
  go_wp2_with fail
  exact ⟨rfl, M7.out, er, ep, eq, ez, HN.out, rfl⟩
 | ok t r =>
  rw [hp] at hq
  obtain ⟨p8, v, rfl, rfl, hG⟩ := hq
  have hln := pCall_len hp
  have hcl := pCall_col hp
  obtain ⟨y, hy⟩ : ∃ y, y = Ex.sum t.1 t.2.1 (t.2.2.getD 0 (.var [])) (t.2.2.getD 1 (.var [])) := ⟨_, rfl⟩
  have hrt : RT = .ok y r := by rw [hy]; have := HR.out; rw [hp] at this; exact this.symm
  subst hrt
  have hGX : GX wt.heap.size (w.heap.size + 1) y wq := by
   rw [hy]
   exact hG.gx _ rfl rfl rfl rfl (rfl) (by match t, hln with | (a, b, [x, y]), _ => rfl)
  clear hG hy hp hnoC hln hcl
  obtain ⟨vs, S, e1, e2, e3⟩ := hGX
  have P7 := Lib.hid p8
  obtain ⟨w8, hw8⟩ : ∃ w8, wq = w8 := ⟨_, rfl⟩
  rw [hw8] at M7 P7 e1 e2 e3 ⊢
  have hzt : w2.heap.size ≤ wt.heap.size := by omega
  clear hw8 p8
  obtain ⟨A, n, c, p', q', z', rfl⟩ := e2.form
  have HB7 : Hid (w8.heap[w.heap.size + 1]? = some (.cells #[nv (hdK y), nv (hdV y).k, nv (hdV y).n, sv (hdV y).s, sv (hdN y), sv (hdC y), nv (hdO y : Nat), .slice A n c, nv p', nv q', nv z'] 59 (0, 0))) := Lib.hid e1
  have X7 := Lib.hid e2
  have S7 : Hid (∀ b, S b → w2.heap.size ≤ b ∧ b < w8.heap.size) := Lib.hid (fun b hb => by have := e3 b hb; omega)
  clear e1 e2 e3
  obtain ⟨⟨⟨⟨y0, y1⟩, y2, y3⟩, ⟨y4, y5⟩, y6, y7⟩, ⟨y8, y9⟩, y10⟩ := cells11 HB7.out
  obtain ⟨⟨⟨⟨fr0, fr1⟩, fr2, fr3⟩, ⟨fr4, fr5⟩, fr6, fr7⟩, ⟨fr8, fr9⟩, fr10⟩ := frozen11 HB7.out
  go_wp2_with fail
  refine bodyPost_ret (v := .agg #[nv (hdK y), nv (hdV y).k, nv (hdV y).n, sv (hdV y).s, sv (hdN y), sv (hdC y), nv (hdO y : Nat), .slice A n c, nv p', nv q', nv z']) (by simp [results, Tryz.results180, go_sem, y0, y1, y2, y3, y4, y5, y6, y7, y8, y9, y10]) rfl ?_
  have hns : ¬ S (w.heap.size + 1) := fun hh => by have := S7.out _ hh; omega
  refine ⟨?_, ?_, _, rfl, exC y (.slice A n c) p' q' z', S, rfl, ?_, ?_⟩
  ·repeat (first | (with_reducible exact M7.out) | refine Mod.set ?_ (.inr (Nat.le_succ _)) _)
  ·repeat (first | (with_reducible exact P7.out) | refine Ps.set ?_ (Nat.lt_succ_of_lt hlt) _)
  ·repeat (first | (with_reducible exact X7.out) | refine ExR.set ?_ hns _)
  ·intro b hb
   have := S7.out b hb
   simp
   omega
theorem opd_cnt (f : Nat) (hE : EC f) (g d : Nat) (l : List Tok) (w : World) (h : Ps w g d l) (hd : d ≤ 16) (hno : pOperand (f + 1) d l ≠ .oof) (hl : pLit l = none) (h40 : isT l [40] = false) (hh : isT l w_has = false) (hs : isT l w_sum = false) (hc : isT l w_count = true) :
  Calls Tryz.prog 180 #[.pointer (some ⟨g, 0, none⟩)] w (Out [g] g d w (pOperand (f + 1) d l) (ExG w.heap.size)) := by
 have HE := Lib.hid hE
 have hmf : ∀ (fn : Fn) (first cap : Array Value) (w : World), (Instr.makeFunc fn first cap).run Tryz.prog w = .ok (.func fn first cap) w := fun _ _ _ _ => rfl
 obtain ⟨RT, hRT⟩ : ∃ RT, pOperand (f + 1) d l = RT := ⟨_, rfl⟩
 rw [hRT] at hno ⊢
 rw [pOperand_none hl] at hRT
 have HRT := Lib.hid hRT
 have HNO := Lib.hid hno
 have HS := Lib.hid h
 have hlt := h.lt
 clear hRT hno h
 clear hE
 have hR := HRT.out
 rw [h40, hh, hs, hc] at hR
 simp only [Bool.false_eq_true, if_false, if_true] at hR
 have HR := Lib.hid hR
 clear hR HRT
 have HA : Hid (Below w.heap.size w ((w.alloc (.cells #[.pointer (some ⟨g, 0, none⟩)] 51)).alloc (.cells #[nv 0, nv 0, nv 0, sv [], sv [], sv [], nv 0, .slice none 0 0, nv 0, nv 0, nv 0] 59))) := Lib.hid (by repeat (first | exact Below.refl _ _ | refine Below.alloc ?_ (by simp <;> omega) _))
 have HB0 : Hid (((w.alloc (.cells #[.pointer (some ⟨g, 0, none⟩)] 51)).alloc (.cells #[nv 0, nv 0, nv 0, sv [], sv [], sv [], nv 0, .slice none 0 0, nv 0, nv 0, nv 0] 59)).heap[w.heap.size]? = some (.cells #[.pointer (some ⟨g, 0, none⟩)] 51 (0, 0))) := Lib.hid (alloc_old' (alloc_at rfl))
 have HB1 : Hid (((w.alloc (.cells #[.pointer (some ⟨g, 0, none⟩)] 51)).alloc (.cells #[nv 0, nv 0, nv 0, sv [], sv [], sv [], nv 0, .slice none 0 0, nv 0, nv 0, nv 0] 59)).heap[w.heap.size + 1]? = some (.cells #[nv 0, nv 0, nv 0, sv [], sv [], sv [], nv 0, .slice none 0 0, nv 0, nv 0, nv 0] 59 (0, 0))) := Lib.hid (alloc_at (by simp))
 have hz2 : ((w.alloc (.cells #[.pointer (some ⟨g, 0, none⟩)] 51)).alloc (.cells #[nv 0, nv 0, nv 0, sv [], sv [], sv [], nv 0, .slice none 0 0, nv 0, nv 0, nv 0] 59)).heap.size = w.heap.size + 2 := by simp
 go_enter Tryz.func180, Tryz.ntmps180
 go_wp2_with fail
 have HP2 := Lib.hid (HS.out.next HA.out)
 obtain ⟨w2, hw2⟩ : ∃ w2, ((w.alloc (.cells #[.pointer (some ⟨g, 0, none⟩)] 51)).alloc (.cells #[nv 0, nv 0, nv 0, sv [], sv [], sv [], nv 0, .slice none 0 0, nv 0, nv 0, nv 0] 59)) = w2 := ⟨_, rfl⟩
 rw [hw2] at HA HB0 HB1 hz2 HP2 ⊢
 clear hw2
 refine (here_any g d l _ HP2.out).mono ?_; rintro e w3 ⟨⟨p, q, z, rfl⟩, b3⟩
 have hb1 := box_next HB1.out b3
 obtain ⟨⟨⟨⟨y0, y1⟩, y2, y3⟩, ⟨y4, y5⟩, y6, y7⟩, ⟨y8, y9⟩, y10⟩ := cells11 hb1
 obtain ⟨⟨⟨⟨fr0, fr1⟩, fr2, fr3⟩, ⟨fr4, fr5⟩, fr6, fr7⟩, ⟨fr8, fr9⟩, fr10⟩ := frozen11 hb1
 have q0 : w3.cell? ⟨w.heap.size, 0, none⟩ = some (.pointer (some ⟨g, 0, none⟩)) := by rw [Lib.cell_of_heap (box_next HB0.out b3)]; rfl
 have hs3 := b3.size
 go_wp2_with fail
 have HB4 : Hid ((((w3.setCell ⟨w.heap.size + 1, 8, none⟩ (.int .i64 p)).setCell ⟨w.heap.size + 1, 9, none⟩ (.int .i64 q)).setCell ⟨w.heap.size + 1, 10, none⟩ (.int .i64 z)).heap[w.heap.size + 1]? = some (.cells #[nv 0, nv 0, nv 0, sv [], sv [], sv [], nv 0, .slice none 0 0, nv p, nv q, nv z] 59 (0, 0))) := Lib.hid (heap_set' (heap_set' (heap_set' hb1 _ 8 rfl) _ 9 rfl) _ 10 rfl)
 have HM4 : Hid (Mod [g] w (((w3.setCell ⟨w.heap.size + 1, 8, none⟩ (.int .i64 p)).setCell ⟨w.heap.size + 1, 9, none⟩ (.int .i64 q)).setCell ⟨w.heap.size + 1, 10, none⟩ (.int .i64 z))) := Lib.hid (((((Mod.of_below HA.out).then (.of_below b3)).set (.inr (by omega)) _).set (.inr (by omega)) _).set (.inr (by omega)) _)
 have HP4 := Lib.hid ((((HP2.out.next b3).set (b := w.heap.size + 1) (i := 8) (by omega) (.int .i64 p)).set (b := w.heap.size + 1) (i := 9) (by omega) (.int .i64 q)).set (b := w.heap.size + 1) (i := 10) (by omega) (.int .i64 z))
 have HB04 : Hid ((((w3.setCell ⟨w.heap.size + 1, 8, none⟩ (.int .i64 p)).setCell ⟨w.heap.size + 1, 9, none⟩ (.int .i64 q)).setCell ⟨w.heap.size + 1, 10, none⟩ (.int .i64 z)).heap[w.heap.size]? = some (.cells #[.pointer (some ⟨g, 0, none⟩)] 51 (0, 0))) := Lib.hid (by
  rw [Below.heap_setCell _ _ _ _ (by simp only; omega), Below.heap_setCell _ _ _ _ (by simp only; omega), Below.heap_setCell _ _ _ _ (by simp only; omega)]
  exact box_next HB0.out b3)
 have hz4 : (((w3.setCell ⟨w.heap.size + 1, 8, none⟩ (.int .i64 p)).setCell ⟨w.heap.size + 1, 9, none⟩ (.int .i64 q)).setCell ⟨w.heap.size + 1, 10, none⟩ (.int .i64 z)).heap.size = w3.heap.size := by simp
 obtain ⟨w4, hw4⟩ : ∃ w4, (((w3.setCell ⟨w.heap.size + 1, 8, none⟩ (.int .i64 p)).setCell ⟨w.heap.size + 1, 9, none⟩ (.int .i64 q)).setCell ⟨w.heap.size + 1, 10, none⟩ (.int .i64 z)) = w4 := ⟨_, rfl⟩
 rw [hw4] at HB4 HM4 HP4 HB04 hz4 ⊢
 clear hw4 b3 hb1 HB0 HB1 HA HP2 q0
 clear y0 y1 y2 y3 y4 y5 y6 y7 y8 y9 y10 fr0 fr1 fr2 fr3 fr4 fr5 fr6 fr7 fr8 fr9 fr10
 refine (literal_any g d l _ HP4.out).mono ?_; rintro e w5 ⟨m5, h5⟩
 rw [hl] at h5
 have HB5 := Lib.hid (m5.box HB4.out (by simp; omega))
 have HB05 := Lib.hid (m5.box HB04.out (by simp; omega))
 have HM5 := Lib.hid (HM4.out.then m5)
 have hs5 := m5.size
 clear m5 HB4 HB04 HM4 HP4
 obtain ⟨⟨a0, a1, a2, rfl⟩, p5⟩ := h5
 have P5 := Lib.hid p5
 clear p5
 have q0 : w5.cell? ⟨w.heap.size, 0, none⟩ = some (.pointer (some ⟨g, 0, none⟩)) := by rw [Lib.cell_of_heap HB05.out]; rfl
 have hs05 : w.heap.size < w5.heap.size := by omega
 go_wp2_with fail
 have HB6 := Lib.hid (alloc_old' (o := .cells #[nv a0, nv a1, sv a2] 57) HB5.out)
 have HB06 := Lib.hid (alloc_old' (o := .cells #[nv a0, nv a1, sv a2] 57) HB05.out)
 have HM6 := Lib.hid (HM5.out.alloc (.cells #[nv a0, nv a1, sv a2] 57))
 have P6 := Lib.hid (P5.out.alloc (.cells #[nv a0, nv a1, sv a2] 57))
 have hz6 : (w5.alloc (.cells #[nv a0, nv a1, sv a2] 57)).heap.size = w5.heap.size + 1 := by simp
 clear HB5 HB05 HM5 P5 q0
 generalize (w5.alloc (.cells #[nv a0, nv a1, sv a2] 57)) = w6 at *
 have q6 : w6.cell? ⟨w.heap.size, 0, none⟩ = some (.pointer (some ⟨g, 0, none⟩)) := by rw [Lib.cell_of_heap HB06.out]; rfl
 refine (is_any g d l [40] _ P6.out).mono ?_; rintro e w7 ⟨rfl, rfl⟩
 rw [h40]
 go_wp2_with fail
 refine (take_any g d l w_has w7 P6.out).mono ?_; rintro e w9 ⟨rfl, mt, pt⟩
 rw [hh] at pt ⊢
 simp only [if_false, Bool.false_eq_true] at pt
 replace HB6 := Lib.hid (mt.box HB6.out (by simp; omega))
 replace HB06 := Lib.hid (mt.box HB06.out (by simp; omega))
 replace HM6 := Lib.hid (HM6.out.then mt)
 have P6' := Lib.hid pt
 have hst9 := mt.size
 clear mt pt P6
 have P6 := P6'
 clear P6'
 have qt9 : w9.cell? ⟨w.heap.size, 0, none⟩ = some (.pointer (some ⟨g, 0, none⟩)) := by rw [Lib.cell_of_heap HB06.out]; rfl
 go_wp2_with fail
 refine (take_any g d l w_sum w9 P6.out).mono ?_; rintro e w10 ⟨rfl, mt, pt⟩
 rw [hs] at pt ⊢
 simp only [if_false, Bool.false_eq_true] at pt
 replace HB6 := Lib.hid (mt.box HB6.out (by simp; omega))
 replace HB06 := Lib.hid (mt.box HB06.out (by simp; omega))
 replace HM6 := Lib.hid (HM6.out.then mt)
 have P6' := Lib.hid pt
 have hst10 := mt.size
 clear mt pt P6
 have P6 := P6'
 clear P6'
 have qt10 : w10.cell? ⟨w.heap.size, 0, none⟩ = some (.pointer (some ⟨g, 0, none⟩)) := by rw [Lib.cell_of_heap HB06.out]; rfl
 go_wp2_with fail
 refine (take_any g d l w_count w10 P6.out).mono ?_; rintro e w8 ⟨rfl, mt, pt⟩
 rw [hc] at pt ⊢
 simp only [if_true, if_false, Bool.false_eq_true] at pt
 have HBt := Lib.hid (mt.box HB6.out (by simp; omega))
 have HB0t := Lib.hid (mt.box HB06.out (by simp; omega))
 have HMt := Lib.hid (HM6.out.then mt)
 have Pt := Lib.hid pt
 have hst := mt.size
 have qt : w8.cell? ⟨w.heap.size, 0, none⟩ = some (.pointer (some ⟨g, 0, none⟩)) := by rw [Lib.cell_of_heap HB0t.out]; rfl
 clear mt pt HB6 HB06 HM6 P6
 go_wp2_with fail
 obtain ⟨wt, hwt⟩ : ∃ wt, w8 = wt := ⟨_, rfl⟩
 rw [hwt] at HBt HB0t HMt Pt hst qt ⊢
 clear hwt
 have hnoC := bind_no HR.out HNO.out
 refine (call_any f HE.out g d (w.heap.size + 1) 6 2 p q z l.tail wt Pt.out hd hnoC HBt.out (by omega) (by omega)).mono ?_; rintro e wq ⟨mq, hq⟩
 have M7 : Hid (Mod [g] w wq) := Lib.hid (HMt.out.trans mq (fun x hx => by
  simp at hx
  rcases hx with rfl | rfl
  ·exact .inl (by simp)
  ·exact .inr (by omega)))
 clear mq
 cases hp : pCall f 6 2 d l.tail with
 | oof => exact absurd hp hnoC
 | bad =>
  rw [hp] at hq
  have hrt : RT = .bad := by have := HR.out; rw [hp] at this; exact this.symm
  subst hrt
  obtain ⟨er, ep, eq, ez, hne, rfl⟩ := hq
  have HN := Lib.hid hne
  clear hne
  go_wp2_with fail
  exact ⟨rfl, M7.out, er, ep, eq, ez, HN.out, rfl⟩
 | ok t r =>
  rw [hp] at hq
  obtain ⟨p8, v, rfl, rfl, hG⟩ := hq
  have hln := pCall_len hp
  have hcl := pCall_col hp
  obtain ⟨y, hy⟩ : ∃ y, y = Ex.cnt t.1 (t.2.2.getD 0 (.var [])) (t.2.2.getD 1 (.var [])) := ⟨_, rfl⟩
  have hrt : RT = .ok y r := by rw [hy]; have := HR.out; rw [hp] at this; exact this.symm
  subst hrt
  have hGX : GX wt.heap.size (w.heap.size + 1) y wq := by
   rw [hy]
   exact hG.gx _ rfl rfl rfl rfl ((hcl.resolve_left (by decide)).symm) (by match t, hln with | (a, b, [x, y]), _ => rfl)
  clear hG hy hp hnoC hln hcl
  obtain ⟨vs, S, e1, e2, e3⟩ := hGX
  have P7 := Lib.hid p8
  obtain ⟨w8, hw8⟩ : ∃ w8, wq = w8 := ⟨_, rfl⟩
  rw [hw8] at M7 P7 e1 e2 e3 ⊢
  have hzt : w2.heap.size ≤ wt.heap.size := by omega
  clear hw8 p8
  obtain ⟨A, n, c, p', q', z', rfl⟩ := e2.form
  have HB7 : Hid (w8.heap[w.heap.size + 1]? = some (.cells #[nv (hdK y), nv (hdV y).k, nv (hdV y).n, sv (hdV y).s, sv (hdN y), sv (hdC y), nv (hdO y : Nat), .slice A n c, nv p', nv q', nv z'] 59 (0, 0))) := Lib.hid e1
  have X7 := Lib.hid e2
  have S7 : Hid (∀ b, S b → w2.heap.size ≤ b ∧ b < w8.heap.size) := Lib.hid (fun b hb => by have := e3 b hb; omega)
  clear e1 e2 e3
  obtain ⟨⟨⟨⟨y0, y1⟩, y2, y3⟩, ⟨y4, y5⟩, y6, y7⟩, ⟨y8, y9⟩, y10⟩ := cells11 HB7.out
  obtain ⟨⟨⟨⟨fr0, fr1⟩, fr2, fr3⟩, ⟨fr4, fr5⟩, fr6, fr7⟩, ⟨fr8, fr9⟩, fr10⟩ := frozen11 HB7.out
  go_wp2_with fail
  refine bodyPost_ret (v := .agg #[nv (hdK y), nv (hdV y).k, nv (hdV y).n, sv (hdV y).s, sv (hdN y), sv (hdC y), nv (hdO y : Nat), .slice A n c, nv p', nv q', nv z']) (by simp [results, Tryz.results180, go_sem, y0, y1, y2, y3, y4, y5, y6, y7, y8, y9, y10]) rfl ?_
  have hns : ¬ S (w.heap.size + 1) := fun hh => by have := S7.out _ hh; omega
  refine ⟨?_, ?_, _, rfl, exC y (.slice A n c) p' q' z', S, rfl, ?_, ?_⟩
  ·repeat (first | (with_reducible exact M7.out) | refine Mod.set ?_ (.inr (Nat.le_succ _)) _)
  ·repeat (first | (with_reducible exact P7.out) | refine Ps.set ?_ (Nat.lt_succ_of_lt hlt) _)
  ·repeat (first | (with_reducible exact X7.out) | refine ExR.set ?_ hns _)
  ·intro b hb
   have := S7.out b hb
   simp
   omega
end Go.Proofs.YtnbmpfdffoidaaaGreatDoor.Y
