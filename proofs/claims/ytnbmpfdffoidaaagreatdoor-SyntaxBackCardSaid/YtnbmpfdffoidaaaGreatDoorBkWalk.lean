/- Texts of the proof, joined: SyntaxBackWalk. -/
import Derived.Test.YtnbmpfdffoidaaaGreatDoorBk15
import Derived.Test.YtnbmpfdffoidaaaGreatDoorBk29
set_option linter.unusedVariables false
set_option linter.unusedSimpArgs false
set_option maxHeartbeats 8000000
set_option maxRecDepth 100000
namespace Go.Proofs.YtnbmpfdffoidaaaGreatDoor.syntaxBack
open Go.RowKit O V S X Y
theorem cut_ba (l : List UInt8) (k m : Nat) (h : min l.length k = m) : (ByteArray.mk l.toArray).extract 0 m = ⟨(l.take k).toArray⟩ := by
 apply ByteArray.ext
 simp [List.extract_eq_take_drop]
 omega
theorem ycut_any (s : List UInt8) (w : World) (hs : s.length ≤ 9223372036854775807) : Calls Tryz.prog 6 #[.string ⟨s.toArray⟩] w fun e w' => e = .returned (.string ⟨(s.take 1500).toArray⟩) ∧ w = w' := by
 have hsz : (ByteArray.mk s.toArray).size = s.length := by simp [ByteArray.size]
 obtain ⟨m, hm⟩ : ∃ m : Nat, min s.length 1500 = m := ⟨_, rfl⟩
 have ex : min (s.length : Int) 1500 = (m : Int) := by omega
 have hm2 : (m : Int) ≤ (s.length : Int) := by omega
 have hcut := cut_ba s 1500 m hm
 clear hm
 go_enter Tryz.func6, Tryz.ntmps6
 go_wp2_with fail
 go_ret
 exact ⟨rfl, rfl⟩
theorem parsed {s : List UInt8} {k : Wk} {l r : List Tok} {o : Nat} (hu : LexU s l 0 o) (hp : parseT l = .ok k r) (hs : s.length ≤ 1500) : okW k ∧ W 1 (toksW k) ≤ 4500 := by
 have hz := (Y.LexU.z hu).1
 have h1 := work_snd (f := 4 * l.length + 8) hz.w (Nat.le_refl _)
 have h2 := work_wt (e := 1) (f := 4 * l.length + 8) hz
 rw [show pWork (4 * l.length + 8) l = .ok k r from hp] at h1 h2
 have h3 := Y.LexU.we hu 1
 exact ⟨h1.2.2.1, Nat.le_trans (Nat.le_trans h2.2 h3) (by omega)⟩
structure Facts (k : Wk) (R : List UInt8) : Prop where
 ok : okW k
 cnt : (toksW k).length ≤ 1000000
 len : R.length ≤ 16384
 spread : Spread (toksW k) R
theorem len_W : ∀ ts : List Tok, ts.length ≤ W 1 ts
 | [] => Nat.zero_le _
 | t :: l => by
  have := len_W l
  rw [W_cons, List.length_cons]
  unfold cw
  omega
theorem join_W : ∀ ts : List Tok, (∀ t ∈ ts, TokOk t) → (joinB (txts ts)).length ≤ W 1 ts
 | [], _ => by simp [joinB, txts]
 | [t], h => by
  have h1 := (h t (by simp)).whole.2
  show t.2.1.length ≤ _
  rw [W_cons, W_nil]
  unfold cw at h1 ⊢
  omega
 | t :: y :: r, h => by
  have h1 := (h t (by simp)).whole.2
  have := join_W (y :: r) fun x hx => h x (by simp at hx ⊢; exact .inr hx)
  rw [W_cons]
  show (t.2.1 ++ 32 :: joinB (txts (y :: r))).length ≤ _
  rw [List.length_append, List.length_cons]
  unfold cw at h1 ⊢
  omega
theorem facts {k : Wk} (ok : okW k) (hw : W 1 (toksW k) ≤ 4500) : Facts k (textOf (toksW k)) := by
 have hok := toksW_ok ok
 have h1 := len_W (toksW k)
 have h2 := join_W (toksW k) hok
 exact ⟨ok, by omega, by unfold textOf; omega, spread_joinB _ hok⟩
theorem walk (s0 : ByteArray) (w : World) (hs : s0.size ≤ maxLen) :
  Calls Tryz.prog 3 #[.string s0] w fun e w' => e = .returned (.bool true) ∧ Below w.heap.size w w' := by
 obtain ⟨l0, rfl⟩ : ∃ l0 : List UInt8, s0 = ⟨l0.toArray⟩ := ⟨s0.data.toList, by cases s0; simp⟩
 have hsz : (ByteArray.mk l0.toArray).size = l0.length := by simp [ByteArray.size]
 rw [hsz] at hs
 unfold maxLen at hs
 have hll : (l0.take 1500).length ≤ 1500 := by simp; omega
 go_enter Tryz.func3, Tryz.ntmps3
 go_wp2_with fail
 refine (ycut_any l0 _ (by omega)).mono ?_; rintro e w0 ⟨rfl, rfl⟩
 generalize l0.take 1500 = l at *
 go_wp2_with fail
 refine (parse_any l _ (by omega)).mono ?_; rintro e w1 ⟨⟨v, er, pp, pq, pr, ts, o, er0, rfl, hu, hx1, hx2⟩, b1⟩
 have B1 := Lib.hid b1
 clear b1
 by_cases her : er = 0
 ·have h0 : er0 = 0 := by
   rcases Decidable.em (er0 = 0) with h | h
   ·exact h
   ·exact absurd her (hx1 h).1
  subst h0
  have hx3 := hx2 rfl
  clear hx1 hx2
  cases hp : parseT ts with
  | oof => rw [hp] at hx3; exact absurd her hx3.1
  | bad => rw [hp] at hx3; exact absurd her hx3.1
  | ok k rest =>
   rw [hp] at hx3
   obtain ⟨_, S, hk, hin⟩ := hx3
   have hpd := parsed hu hp hll
   have hfa := facts hpd.1 hpd.2
   obtain ⟨R, hR⟩ : ∃ R, textOf (toksW k) = R := ⟨_, rfl⟩
   rw [hR] at hfa
   have HR := Lib.hid hR
   have HF := Lib.hid hfa
   have hRl := hfa.len
   have HIN := Lib.hid hin
   have HK := Lib.hid hk
   obtain ⟨A, c, es, B, d, fs, hv, _, _, _⟩ := id hk
   subst hv
   generalize k.tables.length = nt at *
   generalize k.procs.length = np at *
   clear hp hpd hfa hin hk hu hR
   subst her
   go_upto_region 2 with fail
   obtain ⟨w2, hw2⟩ : ∃ W, (w1.alloc (.cells #[.slice A nt c, .slice B np d] 25)).alloc (.cells #[nv pp, nv pq, nv pr] 28) = W := ⟨_, rfl⟩
   have D2 : Below w1.heap.size w1 w2 := by rw [← hw2]; repeat (first | exact Below.refl _ _ | refine Below.alloc ?_ (by first | omega | (simp <;> omega)) _)
   have X5 : Hid (w2.heap[w1.heap.size]? = some (.cells #[.slice A nt c, .slice B np d] 25 (0, 0))) := Lib.hid (by rw [← hw2]; exact alloc_old' (alloc_at rfl))
   rw [hw2]
   clear hw2
   have B2 := Lib.hid (bthen B1.out D2)
   have HK2 := Lib.hid (HK.out.keep (w' := w2) fun b hb => D2.block b (HIN.out b hb).2)
   have HS2 : Hid (∀ b, S b → b < w2.heap.size) := Lib.hid fun b hb => Nat.lt_of_lt_of_le (HIN.out b hb).2 D2.size
   clear D2
   obtain ⟨u0, u1⟩ := box2 X5.out
   go_wp2_with fail
   refine (printW_any k HF.out.ok HF.out.cnt (by rw [HR.out]; omega) _ S w2 HK2.out HS2.out).mono ?_; rintro e w3 ⟨rfl, b3⟩
   rw [HR.out]
   have B3 := Lib.hid (bthen B2.out b3)
   have D23 := Lib.hid b3
   have X3 := Lib.hid (box_next X5.out b3)
   clear u0 u1 b3 X5
   go_wp2_with fail
   refine (parse_back k HF.out.ok R HF.out.spread w3 hRl).mono ?_; rintro e w6 ⟨⟨v2, p2, q2, r2, S2, rfl, hk2, hin2⟩, b6⟩
   have HK6 := Lib.hid hk2
   have HIN6 := Lib.hid hin2
   obtain ⟨A6, c6, es6, B6, d6, fs6, hv6, _, _, _⟩ := id hk2
   subst hv6
   generalize k.tables.length = nt6 at *
   generalize k.procs.length = np6 at *
   clear hk2 hin2
   have X6 := Lib.hid (box_next X3.out b6)
   have D6 := Lib.hid (bthen B3.out b6)
   have D36 := Lib.hid (bthen D23.out b6)
   clear b6
   go_upto_region 6 with fail
   obtain ⟨w7, hw7⟩ : ∃ W, (w6.alloc (.cells #[.slice A6 nt6 c6, .slice B6 np6 d6] 25)).alloc (.cells #[nv p2, nv q2, nv r2] 28) = W := ⟨_, rfl⟩
   have D7 : Below w6.heap.size w6 w7 := by rw [← hw7]; repeat (first | exact Below.refl _ _ | refine Below.alloc ?_ (by first | omega | (simp <;> omega)) _)
   have X7 : Hid (w7.heap[w6.heap.size]? = some (.cells #[.slice A6 nt6 c6, .slice B6 np6 d6] 25 (0, 0))) := Lib.hid (by rw [← hw7]; exact alloc_old' (alloc_at rfl))
   rw [hw7]
   clear hw7
   have HK7 := Lib.hid (HK6.out.keep (w' := w7) fun b hb => D7.block b (HIN6.out b hb).2)
   have HS7 : Hid (∀ b, S2 b → b < w7.heap.size) := Lib.hid fun b hb => Nat.lt_of_lt_of_le (HIN6.out b hb).2 D7.size
   have D27 := Lib.hid (bthen D36.out D7)
   have HK8 := Lib.hid (HK2.out.keep (w' := w7) fun b hb => D27.out.block b (HS2.out b hb))
   have HS8 : Hid (∀ b, S b → b < w7.heap.size) := Lib.hid fun b hb => Nat.lt_of_lt_of_le (HS2.out b hb) D27.out.size
   have D07 := Lib.hid (bthen D6.out D7)
   obtain ⟨u0, u1⟩ := box2 (box_next X6.out D7)
   obtain ⟨z0, z1⟩ := box2 X7.out
   clear D7
   go_wp2_with fail
   refine (sameW_any k k _ _ S2 S w7 HK7.out HK8.out HS7.out HS8.out).mono ?_; rintro e w8 ⟨⟨gb, rfl, hgb⟩, b8⟩
   have hgt : gb = true := hgb.2 rfl
   subst hgt
   have D8 := Lib.hid (bthen D07.out b8)
   have HK9 := Lib.hid (HK7.out.keep (w' := w8) fun b hb => b8.block b (HS7.out b hb))
   have HS9 : Hid (∀ b, S2 b → b < w8.heap.size) := Lib.hid fun b hb => Nat.lt_of_lt_of_le (HS7.out b hb) b8.size
   have X8 := Lib.hid (box_next X7.out b8)
   clear u0 u1 z0 z1 b8 hgb
   obtain ⟨z0, z1⟩ := box2 X8.out
   go_wp2_with fail
   refine (printW_any k HF.out.ok HF.out.cnt (by rw [HR.out]; omega) _ S2 w8 HK9.out HS9.out).mono ?_; rintro e w9 ⟨rfl, b9⟩
   rw [HR.out]
   have D9 := Lib.hid (bthen D8.out b9)
   clear z0 z1 b9
   go_wp2_with fail
   refine (liveY_any _).mono ?_; rintro e w10 ⟨rfl, b10⟩
   go_wp2_with fail
   go_ret
   exact ⟨rfl, bthen D9.out b10⟩
 ·have d0 : (er != 0) = true := by simp [her]
  have hv : v = noW := by
   by_cases h0 : er0 = 0
   ·have := hx2 h0
    cases hp : parseT ts with
    | oof => rw [hp] at this; exact this.2
    | bad => rw [hp] at this; exact this.2
    | ok k r => rw [hp] at this; exact absurd this.1 her
   ·exact (hx1 h0).2
  unfold noW at hv
  subst hv
  clear hx1 hx2 hu
  go_wp2_with fail
  refine (liveY_any _).mono ?_; rintro e w5 ⟨rfl, b5⟩
  go_wp2_with fail
  go_ret
  refine ⟨rfl, bthen (B1.out.trans ?_) b5⟩
  refine Below.mono ?_ B1.out.size
  repeat (first | exact Below.refl _ _ | refine Below.alloc ?_ (by first | omega | (simp <;> omega)) _)
end Go.Proofs.YtnbmpfdffoidaaaGreatDoor.syntaxBack
