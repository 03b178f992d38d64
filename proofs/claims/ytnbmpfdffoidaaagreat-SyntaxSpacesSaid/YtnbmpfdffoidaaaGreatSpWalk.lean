/- Texts of the proof, joined: SyntaxSpacesWalk. -/
import Derived.Test.YtnbmpfdffoidaaaGreatSp11
import Derived.Test.YtnbmpfdffoidaaaGreatSp17
import Derived.Test.YtnbmpfdffoidaaaGreatSp31
set_option linter.unusedVariables false
set_option linter.unusedSimpArgs false
set_option maxHeartbeats 8000000
set_option maxRecDepth 100000
namespace Go.Proofs.YtnbmpfdffoidaaaGreat.syntaxSpaces
open Go.RowKit O V S X Y
theorem cut_ba (l : List UInt8) (k m : Nat) (h : min l.length k = m) : (ByteArray.mk l.toArray).extract 0 m = ⟨(l.take k).toArray⟩ := by
 apply ByteArray.ext
 simp [List.extract_eq_take_drop]
 omega
theorem parsed {s : List UInt8} {k : Wk} {l r : List Tok} {o : Nat} (hu : LexU s l 0 o) (hp : parseT l = .ok k r) (hs : s.length ≤ 1000) : okW k ∧ W 9 (toksW k) ≤ 11000 := by
 have hz := (Y.LexU.z hu).1
 have h1 := work_snd (f := 4 * l.length + 8) hz.w (Nat.le_refl _)
 have h2 := work_wt (e := 9) (f := 4 * l.length + 8) hz
 rw [show pWork (4 * l.length + 8) l = .ok k r from hp] at h1 h2
 have h3 := Y.LexU.we hu 9
 exact ⟨h1.2.2.1, Nat.le_trans (Nat.le_trans h2.2 h3) (by omega)⟩
theorem sp_sum : ∀ l : List Tok, (sp l).length ≤ sumL (txts l)
 | [] => by simp [sumL, txts, sp_nil]
 | t :: l => by
  have := sp_sum l
  rw [sp_cons]
  simp only [sumL, txts, List.map_cons, List.sum_cons, List.length_append, List.length_cons] at this ⊢
  omega
theorem joinB_sum : ∀ l : List (List UInt8), (joinB l).length ≤ sumL l
 | [] => by simp [joinB, sumL]
 | [t] => by show t.length ≤ _; simp [sumL]
 | t :: y :: r => by
  have := joinB_sum (y :: r)
  show (t ++ 32 :: joinB (y :: r)).length ≤ _
  simp only [sumL, List.map_cons, List.sum_cons, List.length_append, List.length_cons] at this ⊢
  omega
structure Facts (k : Wk) (R : List UInt8) (ws : List (List UInt8)) : Prop where
 ok : okW k
 sp : (sp (toksW k)).length ≤ 99999000
 len : R.length ≤ 20000
 words : wrd R false [] = ws
 sum : sumL ws ≤ 16384
 spread : ∀ T, Jn ws T → Spread (toksW k) T
theorem facts {k : Wk} (ok : okW k) (hw : W 9 (toksW k) ≤ 11000) : Facts k (textOf (toksW k)) (wordsOf (txts (toksW k))) := by
 have hok := toksW_ok ok
 have h1 := Nat.le_trans (sum_W hok) hw
 have h2 := sp_sum (toksW k)
 have h3 := joinB_sum (txts (toksW k))
 have h4 := sum_words (txts (toksW k))
 refine ⟨ok, by omega, by unfold textOf; omega, wrd_join _ ?_, by omega, fun T hT => spread_jn hok hT⟩
 intro t ht
 obtain ⟨x, hx, rfl⟩ := List.mem_map.1 ht
 exact (hok x hx).whole.1
theorem sum_len : ∀ l : List (List UInt8), l.length ≤ sumL l
 | [] => by simp [sumL]
 | t :: l => by
  have := sum_len l
  simp only [sumL, List.map_cons, List.sum_cons, List.length_cons] at this ⊢
  omega
theorem sum_take (l : List (List UInt8)) (k : Nat) : sumL (l.take k) ≤ sumL l := by
 conv => rhs; rw [← List.take_append_drop k l]
 unfold sumL
 rw [List.map_append, List.sum_append]
 exact Nat.le_add_right _ _
theorem sum_at {l : List (List UInt8)} {k : Nat} (h : k < l.length) : sumL (l.take (k + 1)) = sumL (l.take k) + (l[k].length + 9) := by
 rw [List.take_succ_eq_append_getElem h]
 unfold sumL
 rw [List.map_append, List.sum_append]
 rfl
theorem walk (s0 : ByteArray) (x : Int) (w : World) (hs : s0.size ≤ maxLen) (hx : (Lit.int .u64 x).wf = true) :
  Calls Tryz.prog 3 #[.string s0, .int .u64 x] w fun e w' => e = .returned (.bool true) ∧ Below w.heap.size w w' := by
 obtain ⟨l0, rfl⟩ : ∃ l0 : List UInt8, s0 = ⟨l0.toArray⟩ := ⟨s0.data.toList, by cases s0; simp⟩
 have hsz : (ByteArray.mk l0.toArray).size = l0.length := by simp [ByteArray.size]
 rw [hsz] at hs
 unfold maxLen at hs
 obtain ⟨m, hm⟩ : ∃ m : Nat, min l0.length 1000 = m := ⟨_, rfl⟩
 have ex : min (l0.length : Int) 1000 = (m : Int) := by omega
 have hm2 : (m : Int) ≤ (l0.length : Int) := by omega
 have hcut := cut_ba l0 1000 m hm
 have hll : (l0.take 1000).length ≤ 1000 := by simp; omega
 generalize l0.take 1000 = l at hcut hll
 clear hm
 simp [Lit.wf, IntKind.min, IntKind.max, IntKind.signed, IntKind.bits] at hx
 go_enter Tryz.func3, Tryz.ntmps3
 go_wp2_with fail
 refine (parse_any l _ (by omega)).mono ?_; rintro e w1 ⟨⟨v, er, pp, pq, pr, ts, o, er0, rfl, hu, hx1, hx2⟩, b1⟩
 have B1 := Lib.hid b1
 clear b1
 by_cases her : er = 0
 ·have h0 : er0 = 0 := by
   rcases Decidable.em (er0 = 0) with h | h
   ·exact h
   ·exact absurd her (hx1 h).1
  subst h0
  have hx3 := hx2 rfl
  clear hx1 hx2
  cases hp : parseT ts with
  | oof => rw [hp] at hx3; exact absurd her hx3.1
  | bad => rw [hp] at hx3; exact absurd her hx3.1
  | ok k rest =>
   rw [hp] at hx3
   obtain ⟨_, S, hk, hin⟩ := hx3
   have hpd := parsed hu hp hll
   have hfa := facts hpd.1 hpd.2
   obtain ⟨R, hR⟩ : ∃ R, textOf (toksW k) = R := ⟨_, rfl⟩
   rw [hR] at hfa
   have HR := Lib.hid hR
   generalize wordsOf (txts (toksW k)) = ws at hfa
   have HF := Lib.hid hfa
   have HIN := Lib.hid hin
   have HK := Lib.hid hk
   obtain ⟨wv, hwv⟩ : ∃ z, v = z := ⟨_, rfl⟩
   obtain ⟨A, c, es, B, d, fs, hv, _, _, _⟩ := id hk
   subst hv
   generalize k.tables.length = nt at *
   generalize k.procs.length = np at *
   clear hp hpd hfa hin hk hu hR hwv
   subst her
   go_upto_region 2 with fail
   obtain ⟨w2, hw2⟩ : ∃ W, (w1.alloc (.cells #[.slice A nt c, .slice B np d] 26)).alloc (.cells #[nv pp, nv pq, nv pr] 29) = W := ⟨_, rfl⟩
   have D2 : Below w1.heap.size w1 w2 := by rw [← hw2]; repeat (first | exact Below.refl _ _ | refine Below.alloc ?_ (by first | omega | (simp <;> omega)) _)
   have X5 : Hid (w2.heap[w1.heap.size]? = some (.cells #[.slice A nt c, .slice B np d] 26 (0, 0))) := Lib.hid (by rw [← hw2]; exact alloc_old' (alloc_at rfl))
   rw [hw2]
   clear hw2
   have B2 := Lib.hid (bthen B1.out D2)
   have HK2 := Lib.hid (HK.out.keep (w' := w2) fun b hb => D2.block b (HIN.out b hb).2)
   have HS2 : Hid (∀ b, S b → b < w2.heap.size) := Lib.hid fun b hb => Nat.lt_of_lt_of_le (HIN.out b hb).2 D2.size
   clear D2
   obtain ⟨u0, u1⟩ := box2 X5.out
   go_wp2_with fail
   refine (rprintW_any k HF.out.ok HF.out.sp _ S w2 HK2.out HS2.out).mono ?_; rintro e w3 ⟨rfl, b3⟩
   rw [HR.out]
   go_wp2_with fail
   refine (words_any R w3 (by have := HF.out.len; omega)).mono ?_; rintro e w4 ⟨⟨A4, n4, c4, rfl, o4⟩, b4⟩
   rw [HF.out.words] at o4
   have hn4 : ws.length = n4 := by have := o4.1; simpa using this
   have hcap4 := own_cap o4
   have hn4b : n4 ≤ 16384 := by rw [← hn4]; exact Nat.le_trans (sum_len ws) HF.out.sum
   have O4 := Lib.hid o4
   have HN4 := Lib.hid hn4
   have B34 := Lib.hid (bthen b3 b4)
   have B4 := Lib.hid (bthen B2.out B34.out)
   have X4 := Lib.hid (box_next X5.out B34.out)
   clear u0 u1 o4 hn4 b3 b4 X5
   go_wp2_with fail
   go_loopw [1, 8, 31] (fun sd s i wr => ∃ (y : Int) (z : Nat) (T : List UInt8), z ≤ n4 ∧ i = .int .i64 z ∧ sd = .int .u64 y ∧ (0 ≤ y ∧ y < 18446744073709551616) ∧ s = sv T ∧ Hid (Jn (ws.take z) T) ∧ wr = w4) (fun _ _ i _ => n4 - (intOf i).toNat)
   case atStart => exact ⟨x, 0, [], by omega, rfl, rfl, by omega, rfl, Lib.hid .nil, rfl⟩
   case round =>
    obtain ⟨y, z, T, hz, rfl, rfl, hy, rfl, HJ, rfl⟩ := hrel
    have hTl := HJ.out.len
    have hTs := sum_take ws z
    have hsm := HF.out.sum
    by_cases hzl : z < n4
    ·have hzl' : z < ws.length := by rw [HN4.out]; exact hzl
     have hzi : (z : Int) < (n4 : Int) := by omega
     obtain ⟨b5, off5, e5, hb5, hc5⟩ := (Rd.of_own O4.out).2 (by simp; omega)
     have x0 : wr.cell? ⟨b5, off5 + z, none⟩ = some (sv ws[z]) := by rw [hc5 z (by simpa using hzl')]; simp [hzl']
     subst e5
     have h1 := sum_at hzl'
     have h2 := sum_take ws (z + 1)
     have HT : Hid (∀ u, SepOk u → Jn (ws.take (z + 1)) (T ++ ws[z] ++ u)) := Lib.hid (by rw [List.take_succ_eq_append_getElem hzl']; exact fun u hu => .snoc HJ.out hu)
     have htl : T.length + ws[z].length + 20 ≤ 20000 := by omega
     clear h1 h2 hc5 hTl hTs hsm
     generalize ws[z] = t at *
     go_upto_region 12 with fail
     have hy2 : 0 ≤ IntKind.u64.wrap (IntKind.u64.wrap (y * 75) + 74) ∧ IntKind.u64.wrap (IntKind.u64.wrap (y * 75) + 74) < 18446744073709551616 := by rw [IntKind.wrap_u64]; omega
     generalize IntKind.u64.wrap (IntKind.u64.wrap (y * 75) + 74) = y2 at *
     generalize (y2 / 256).tmod 4 = c4' at *
     by_cases e0 : c4' = 0
     ·have HT2 := Lib.hid (HT.out _ sep_line)
      subst e0
      go_wp2_with fail
      go_roundw
      case rel => exact ⟨y2, z + 1, _, by omega, by go_num, rfl, hy2, by simp only [ba_append], HT2, trivial⟩
      case measure => simp [intOf]; omega
     ·have d0 : (c4' == 0) = false := by simp [e0]
      by_cases e1 : c4' = 1
      ·have HT2 := Lib.hid (HT.out _ sep_note)
       subst e1
       go_wp2_with fail
       go_roundw
       case rel => exact ⟨y2, z + 1, _, by omega, by go_num, rfl, hy2, by simp only [ba_append], HT2, trivial⟩
       case measure => simp [intOf]; omega
      ·have d1 : (c4' == 1) = false := by simp [e1]
       have HT2 := Lib.hid (HT.out _ sep_two)
       go_wp2_with fail
       go_roundw
       case rel => exact ⟨y2, z + 1, _, by omega, by go_num, rfl, hy2, by simp only [ba_append], HT2, trivial⟩
       case measure => simp [intOf]; omega
    ·obtain rfl : z = n4 := by omega
     have hJ := HJ.out
     rw [List.take_of_length_le (by rw [HN4.out]; exact Nat.le_refl _)] at hJ
     have SPR := Lib.hid (HF.out.spread T hJ)
     have hT16 : T.length ≤ 16384 := by omega
     have hzi : ¬ (z : Int) < (z : Int) := by omega
     clear hJ hTl hTs hsm
     go_wp2_with fail
     refine (parse_back k HF.out.ok T SPR.out wr hT16).mono ?_; rintro e w6 ⟨⟨v2, p2, q2, r2, S2, rfl, hk2, hin2⟩, b6⟩
     have HK6 := Lib.hid hk2
     have HIN6 := Lib.hid hin2
     obtain ⟨A6, c6, es6, B6, d6, fs6, hv6, _, _, _⟩ := id hk2
     subst hv6
     generalize k.tables.length = nt6 at *
     generalize k.procs.length = np6 at *
     clear hk2 hin2
     have X6 := Lib.hid (box_next X4.out b6)
     have D6 := Lib.hid (bthen B4.out b6)
     have D36 := Lib.hid (bthen B34.out b6)
     clear b6
     go_upto_region 18 with fail
     obtain ⟨w7, hw7⟩ : ∃ W, (w6.alloc (.cells #[.slice A6 nt6 c6, .slice B6 np6 d6] 26)).alloc (.cells #[nv p2, nv q2, nv r2] 29) = W := ⟨_, rfl⟩
     have D7 : Below w6.heap.size w6 w7 := by rw [← hw7]; repeat (first | exact Below.refl _ _ | refine Below.alloc ?_ (by first | omega | (simp <;> omega)) _)
     have X7 : Hid (w7.heap[w6.heap.size]? = some (.cells #[.slice A6 nt6 c6, .slice B6 np6 d6] 26 (0, 0))) := Lib.hid (by rw [← hw7]; exact alloc_old' (alloc_at rfl))
     rw [hw7]
     clear hw7
     have HK7 := Lib.hid (HK6.out.keep (w' := w7) fun b hb => D7.block b (HIN6.out b hb).2)
     have HS7 : Hid (∀ b, S2 b → b < w7.heap.size) := Lib.hid fun b hb => Nat.lt_of_lt_of_le (HIN6.out b hb).2 D7.size
     have D27 := Lib.hid (bthen D36.out D7)
     have HK8 := Lib.hid (HK2.out.keep (w' := w7) fun b hb => D27.out.block b (HS2.out b hb))
     have HS8 : Hid (∀ b, S b → b < w7.heap.size) := Lib.hid fun b hb => Nat.lt_of_lt_of_le (HS2.out b hb) D27.out.size
     have D07 := Lib.hid (bthen D6.out D7)
     obtain ⟨u0, u1⟩ := box2 (box_next X6.out D7)
     obtain ⟨z0, z1⟩ := box2 X7.out
     clear D7
     go_wp2_with fail
     refine (sameW_any k k _ _ S2 S w7 HK7.out HK8.out HS7.out HS8.out).mono ?_; rintro e w8 ⟨⟨gb, rfl, hgb⟩, b8⟩
     have hgt : gb = true := hgb.2 rfl
     subst hgt
     have D8 := Lib.hid (bthen D07.out b8)
     clear u0 u1 z0 z1 b8 hgb
     go_wp2_with fail
     refine (liveY_any _).mono ?_; rintro e w9 ⟨rfl, b9⟩
     go_wp2_with fail
     go_ret
     exact ⟨rfl, bthen D8.out b9⟩
 ·have d0 : (er != 0) = true := by simp [her]
  have hv : ∃ A c B d n m, v = .agg #[.slice A n c, .slice B m d] := by
   by_cases h0 : er0 = 0
   ·have := hx2 h0
    cases hp : parseT ts with
    | oof => rw [hp] at this; exact ⟨none, 0, none, 0, 0, 0, this.2⟩
    | bad => rw [hp] at this; exact ⟨none, 0, none, 0, 0, 0, this.2⟩
    | ok k r => rw [hp] at this; exact absurd this.1 her
   ·exact ⟨none, 0, none, 0, 0, 0, (hx1 h0).2⟩
  obtain ⟨A, c, B, d, n, m, rfl⟩ := hv
  clear hx1 hx2 hu
  go_wp2_with fail
  refine (liveY_any _).mono ?_; rintro e w5 ⟨rfl, b5⟩
  go_wp2_with fail
  go_ret
  refine ⟨rfl, bthen (B1.out.trans ?_) b5⟩
  refine Below.mono ?_ B1.out.size
  repeat (first | exact Below.refl _ _ | refine Below.alloc ?_ (by first | omega | (simp <;> omega)) _)
end Go.Proofs.YtnbmpfdffoidaaaGreat.syntaxSpaces
