/- The contract of the reference's one at digits (layer 8). -/
import Derived.Test.YtpodniljpinigaaLexRefO
namespace Go.Proofs.Ytpodniljpinigaa.X
open Go.RowKit O V S
set_option maxHeartbeats 4000000 in
set_option maxRecDepth 100000 in
theorem rone_dig (s : List UInt8) (i : Nat) (w : World) (hs : s.length ≤ 20000) (hin : i < s.length) (h1 : smallC (s[i]) = false) (h2 : digitC (s[i]) = true) : Calls Try.prog 40 #[.string ⟨s.toArray⟩, .int .i64 (i : Int)] w fun e w' => RetO (tokL (s.drop i)) (s.drop i) i e ∧ Below w.heap.size w w' := by
  have hsz : (ByteArray.mk s.toArray).size = s.length := by simp [ByteArray.size]
  obtain ⟨c, hc⟩ : ∃ c, s[i] = c := ⟨_, rfl⟩
  have hx := ba_at s i hin hc
  have HD : Hid (s.drop i = c :: s.drop (i + 1)) := Lib.hid (by rw [List.drop_eq_getElem_cons hin, hc])
  have hdl : (s.drop i).length = s.length - i := by simp
  rw [hc] at h1 h2
  clear hc
  have hk : kindN c = 2 := by unfold kindN; rw [if_neg (by simp [h1]), if_pos h2]
  have HT : Hid (tokL (s.drop i) = if numOk ((s.drop i).take (runLen digitC (s.drop i))) = true then ⟨0, 0, 2, runLen digitC (s.drop i), ⟨1, (numV ((s.drop i).take (runLen digitC (s.drop i))) : Nat), []⟩⟩ else ⟨11, 0, 2, 0, zeroV⟩) := Lib.hid (by rw [HD.out, tokL_cons, if_neg (by simp [h1]), if_pos h2])
  have hw1 : Hid (((s.drop i).take 1).all digitC = true) := Lib.hid (by rw [HD.out]; simp [h2])
  clear h1 h2
  go_enter Try.func40, Try.ntmps40
  go_wp2_with fail
  refine (rkind_any c _).mono ?_; rintro e w1 ⟨rfl, rfl⟩
  rw [hk]
  clear hk
  go_wp2_with fail
  generalize hW0 : ((w.alloc (.cells #[.int .i64 0, .string ⟨#[]⟩, .int .i64 0, .int .i64 0, .string ⟨#[]⟩, .int .i64 0, .int .i64 0, .int .i64 0] 45)).alloc (.cells #[.int .i64 0, .string ⟨#[]⟩, .int .i64 0, .int .i64 0, .string ⟨#[]⟩, .int .i64 0, .int .i64 0, .int .i64 0] 45)) = W0 at *
  have hO : OB w W0 := by rw [← hW0]; exact OB.start w
  have HO := Lib.hid hO
  clear hW0 hO
  go_loop [8] (fun v => ∃ m : Nat, 1 ≤ m ∧ i + m ≤ s.length ∧ v = .int .i64 ((i + m : Nat) : Int) ∧ Hid (((s.drop i).take m).all digitC = true)) (fun v => s.length - (intOf v).toNat)
  case atStart => exact ⟨1, by omega, by omega, rfl, hw1⟩
  case round =>
    obtain ⟨m, hm1, hml, rfl, H⟩ := hrel
    obtain ⟨x0, x1, x2, x3, x4, x5, x6, x7⟩ := cells8 HO.out.t
    obtain ⟨f0, f1, f2, f3, f4, f5, f6, f7⟩ := frozen8 HO.out.t
    obtain ⟨z0, z1, z2, z3, z4, z5, z6, z7⟩ := cells8 HO.out.z
    obtain ⟨y0, y1, y2, y3, y4, y5, y6, y7⟩ := frozen8 HO.out.z
    obtain ⟨k, hk⟩ : ∃ k, i + m = k := ⟨_, rfl⟩
    have HK := Lib.hid hk
    rw [hk]
    rw [hk] at hml
    by_cases hlt : k < s.length
    · have hlt' : m < (s.drop i).length := by omega
      have hst := Lib.hid (all_snoc (p := digitC) hlt' H.out)
      have hno := Lib.hid (run_step (p := digitC) hlt' H.out)
      obtain ⟨d, hd⟩ : ∃ d, (s.drop i)[m] = d := ⟨_, rfl⟩
      rw [hd] at hst hno
      rw [List.getElem_drop] at hd
      have hx2 := ba_at s k hlt (by simpa only [hk] using hd)
      have hki : (k : Int) < (s.length : Int) := by omega
      clear hd hk
      cases hp : digitC d
      · have hrl : runLen digitC (s.drop i) = m := hno.out.trans (if_neg (by simp [hp]))
        have g0 : ((kindN d : Int) == 2) = false := by rw [kind2] at hp; simp at hp; simp; omega
        clear hp hno hst hlt'
        have HRL := Lib.hid hrl
        have hcut := cut_at s i m k (by have := HK.out; omega)
        have i1 : (i : Int) ≤ (k : Int) := by have := HK.out; omega
        have i2 : (k : Int) ≤ (s.length : Int) := by have := HK.out; omega
        have i3 : i ≤ k := by have := HK.out; omega
        have hdd : ((s.drop i).take m).all digitC = true := by
          have := H.out; exact this
        have hlm : ((s.drop i).take m).length = m := by rw [List.length_take]; have := HK.out; omega
        have HPR := Lib.hid (parseR_dig ((s.drop i).take m) (by omega) hdd)
        have HTM := Lib.hid HT.out
        rw [HRL.out] at HTM
        obtain ⟨D, hD⟩ : ∃ D, (s.drop i).take m = D := ⟨_, rfl⟩
        rw [hD] at hcut hlm HPR HTM
        have HDD := Lib.hid hD
        clear hdd hrl hD H
        go_wp2_with fail
        refine (rkind_any d _).mono ?_; rintro e w1 ⟨rfl, rfl⟩
        go_wp2_with fail
        refine (rparse_any D _ (by have := HK.out; omega)).mono ?_; rintro e w2 ⟨u, rfl, hu, b2⟩
        have HO2 := Lib.hid (HO.out.next b2)
        clear x0 x1 x2 x3 x4 x5 x6 x7 f0 f1 f2 f3 f4 f5 f6 f7 z0 z1 z2 z3 z4 z5 z6 z7 y0 y1 y2 y3 y4 y5 y6 y7
        unfold vv
        cases hok : numOk D
        · have HR : Hid (tokL (s.drop i) = ⟨11, 0, 2, 0, zeroV⟩) := Lib.hid (by rw [HTM.out, hok]; rfl)
          have hS : (parseR D).isSome = false := by rw [HPR.out, hok]; rfl
          rw [hS]
          have HO3 := Lib.hid (HO2.out.next ((Below.refl _ _).alloc (Nat.le_refl _) (.cells #[.int .i64 u.k, .int .i64 u.n, .string ⟨u.s.toArray⟩] 23)))
          obtain ⟨x0, x1, x2, x3, x4, x5, x6, x7⟩ := cells8 HO3.out.t
          obtain ⟨f0, f1, f2, f3, f4, f5, f6, f7⟩ := frozen8 HO3.out.t
          obtain ⟨z0, z1, z2, z3, z4, z5, z6, z7⟩ := cells8 HO3.out.z
          obtain ⟨y0, y1, y2, y3, y4, y5, y6, y7⟩ := frozen8 HO3.out.z
          clear hS hu hok
          go_wp2_with fail
          refine bodyPost_ret (v := .tuple #[.agg (tk0 0 [] zeroV).toArray, .int .i64 11, .int .i64 (i : Int)]) (by simp [results, Try.results40, go_sem, tk0, zeroV, z0, z1, z2, z3, z4, z5, z6, z7]) rfl ?_
          refine ⟨⟨0, [], zeroV, ?_, fun h => ?_⟩, ?_⟩
          · rw [HR.out]; rfl
          · rw [HR.out] at h; exact absurd (show (11 : Int) = 0 from h) (by decide)
          · have := HO3.out.b
            repeat (first | (with_reducible exact Below.refl _ _) | (with_reducible assumption) | refine Below.setCell ?_ (by simp <;> omega) _ | refine Below.alloc ?_ (by simp <;> omega) _ | refine Below.drew ?_)
        · have HR : Hid (tokL (s.drop i) = ⟨0, 0, 2, m, ⟨1, (numV D : Nat), []⟩⟩) := Lib.hid (by rw [HTM.out, hok]; rfl)
          have hS : (parseR D).isSome = true := by rw [HPR.out, hok]; rfl
          have hue := hu _ (by rw [HPR.out, hok]; rfl)
          subst hue
          rw [hS]
          obtain ⟨N, hN⟩ : ∃ N : Int, ((numV D : Nat) : Int) = N := ⟨_, rfl⟩
          rw [hN] at HR
          rw [hN]
          have HO3 := Lib.hid (HO2.out.next ((Below.refl _ _).alloc (Nat.le_refl _) (.cells #[.int .i64 1, .int .i64 N, .string ⟨#[]⟩] 23)))
          have hX3 : (w2.alloc (.cells #[.int .i64 1, .int .i64 N, .string ⟨#[]⟩] 23)).heap[w2.heap.size]? = some (.cells #[.int .i64 1, .int .i64 N, .string ⟨#[]⟩] 23 (0, 0)) := heap_alloc_new _ _
          have hne1 : w2.heap.size ≠ w.heap.size + 1 := by have := (Array.getElem?_eq_some_iff.1 HO2.out.t).1; omega
          obtain ⟨v0, v1, v2⟩ := cells3p hX3
          obtain ⟨x0, x1, x2, x3, x4, x5, x6, x7⟩ := cells8 HO3.out.t
          obtain ⟨f0, f1, f2, f3, f4, f5, f6, f7⟩ := frozen8 HO3.out.t
          obtain ⟨z0, z1, z2, z3, z4, z5, z6, z7⟩ := cells8 HO3.out.z
          obtain ⟨y0, y1, y2, y3, y4, y5, y6, y7⟩ := frozen8 HO3.out.z
          clear hS hu hok
          go_wp2_with fail
          refine bodyPost_ret (v := .tuple #[.agg (tk0 2 ((s.drop i).take m) ⟨1, N, []⟩).toArray, .int .i64 0, .int .i64 0]) (by simp [results, Try.results40, go_sem, tk0, HDD.out, z0, z1, z2, z3, z4, z5, z6, z7]) rfl ?_
          refine ⟨⟨2, (s.drop i).take m, ⟨1, N, []⟩, ?_, fun h => ?_⟩, ?_⟩
          · rw [HR.out]; rfl
          · rw [HR.out]; exact ⟨rfl, rfl, rfl⟩
          · have := HO3.out.b
            repeat (first | (with_reducible exact Below.refl _ _) | (with_reducible assumption) | refine Below.setCell ?_ (by simp <;> omega) _ | refine Below.alloc ?_ (by simp <;> omega) _ | refine Below.drew ?_)
      · have g0 : ((kindN d : Int) == 2) = true := by rw [kind2] at hp; simp at hp; simp; omega
        have hst' := Lib.hid (hst.out hp)
        clear hp
        go_wp2_with fail
        refine (rkind_any d _).mono ?_; rintro e w1 ⟨rfl, rfl⟩
        go_wp2_with fail
        go_round
        case rel => exact ⟨m + 1, by omega, by have := HK.out; omega, congrArg (Value.int .i64) (by have := HK.out; omega), hst'⟩
        case measure => simp [intOf]; omega
    · have hrl : runLen digitC (s.drop i) = m := by
        have h1 := H.out
        rw [List.take_of_length_le (by omega)] at h1
        rw [run_all h1]; omega
      have hki : ¬ (k : Int) < (s.length : Int) := by omega
      clear hk
      have HRL := Lib.hid hrl
      have hcut := cut_at s i m k (by have := HK.out; omega)
      have i1 : (i : Int) ≤ (k : Int) := by have := HK.out; omega
      have i2 : (k : Int) ≤ (s.length : Int) := by have := HK.out; omega
      have i3 : i ≤ k := by have := HK.out; omega
      have hdd : ((s.drop i).take m).all digitC = true := by
        have := H.out; exact this
      have hlm : ((s.drop i).take m).length = m := by rw [List.length_take]; have := HK.out; omega
      have HPR := Lib.hid (parseR_dig ((s.drop i).take m) (by omega) hdd)
      have HTM := Lib.hid HT.out
      rw [HRL.out] at HTM
      obtain ⟨D, hD⟩ : ∃ D, (s.drop i).take m = D := ⟨_, rfl⟩
      rw [hD] at hcut hlm HPR HTM
      have HDD := Lib.hid hD
      clear hdd hrl hD H
      go_wp2_with fail
      refine (rparse_any D _ (by have := HK.out; omega)).mono ?_; rintro e w2 ⟨u, rfl, hu, b2⟩
      have HO2 := Lib.hid (HO.out.next b2)
      clear x0 x1 x2 x3 x4 x5 x6 x7 f0 f1 f2 f3 f4 f5 f6 f7 z0 z1 z2 z3 z4 z5 z6 z7 y0 y1 y2 y3 y4 y5 y6 y7
      unfold vv
      cases hok : numOk D
      · have HR : Hid (tokL (s.drop i) = ⟨11, 0, 2, 0, zeroV⟩) := Lib.hid (by rw [HTM.out, hok]; rfl)
        have hS : (parseR D).isSome = false := by rw [HPR.out, hok]; rfl
        rw [hS]
        have HO3 := Lib.hid (HO2.out.next ((Below.refl _ _).alloc (Nat.le_refl _) (.cells #[.int .i64 u.k, .int .i64 u.n, .string ⟨u.s.toArray⟩] 23)))
        obtain ⟨x0, x1, x2, x3, x4, x5, x6, x7⟩ := cells8 HO3.out.t
        obtain ⟨f0, f1, f2, f3, f4, f5, f6, f7⟩ := frozen8 HO3.out.t
        obtain ⟨z0, z1, z2, z3, z4, z5, z6, z7⟩ := cells8 HO3.out.z
        obtain ⟨y0, y1, y2, y3, y4, y5, y6, y7⟩ := frozen8 HO3.out.z
        clear hS hu hok
        go_wp2_with fail
        refine bodyPost_ret (v := .tuple #[.agg (tk0 0 [] zeroV).toArray, .int .i64 11, .int .i64 (i : Int)]) (by simp [results, Try.results40, go_sem, tk0, zeroV, z0, z1, z2, z3, z4, z5, z6, z7]) rfl ?_
        refine ⟨⟨0, [], zeroV, ?_, fun h => ?_⟩, ?_⟩
        · rw [HR.out]; rfl
        · rw [HR.out] at h; exact absurd (show (11 : Int) = 0 from h) (by decide)
        · have := HO3.out.b
          repeat (first | (with_reducible exact Below.refl _ _) | (with_reducible assumption) | refine Below.setCell ?_ (by simp <;> omega) _ | refine Below.alloc ?_ (by simp <;> omega) _ | refine Below.drew ?_)
      · have HR : Hid (tokL (s.drop i) = ⟨0, 0, 2, m, ⟨1, (numV D : Nat), []⟩⟩) := Lib.hid (by rw [HTM.out, hok]; rfl)
        have hS : (parseR D).isSome = true := by rw [HPR.out, hok]; rfl
        have hue := hu _ (by rw [HPR.out, hok]; rfl)
        subst hue
        rw [hS]
        obtain ⟨N, hN⟩ : ∃ N : Int, ((numV D : Nat) : Int) = N := ⟨_, rfl⟩
        rw [hN] at HR
        rw [hN]
        have HO3 := Lib.hid (HO2.out.next ((Below.refl _ _).alloc (Nat.le_refl _) (.cells #[.int .i64 1, .int .i64 N, .string ⟨#[]⟩] 23)))
        have hX3 : (w2.alloc (.cells #[.int .i64 1, .int .i64 N, .string ⟨#[]⟩] 23)).heap[w2.heap.size]? = some (.cells #[.int .i64 1, .int .i64 N, .string ⟨#[]⟩] 23 (0, 0)) := heap_alloc_new _ _
        have hne1 : w2.heap.size ≠ w.heap.size + 1 := by have := (Array.getElem?_eq_some_iff.1 HO2.out.t).1; omega
        obtain ⟨v0, v1, v2⟩ := cells3p hX3
        obtain ⟨x0, x1, x2, x3, x4, x5, x6, x7⟩ := cells8 HO3.out.t
        obtain ⟨f0, f1, f2, f3, f4, f5, f6, f7⟩ := frozen8 HO3.out.t
        obtain ⟨z0, z1, z2, z3, z4, z5, z6, z7⟩ := cells8 HO3.out.z
        obtain ⟨y0, y1, y2, y3, y4, y5, y6, y7⟩ := frozen8 HO3.out.z
        clear hS hu hok
        go_wp2_with fail
        refine bodyPost_ret (v := .tuple #[.agg (tk0 2 ((s.drop i).take m) ⟨1, N, []⟩).toArray, .int .i64 0, .int .i64 0]) (by simp [results, Try.results40, go_sem, tk0, HDD.out, z0, z1, z2, z3, z4, z5, z6, z7]) rfl ?_
        refine ⟨⟨2, (s.drop i).take m, ⟨1, N, []⟩, ?_, fun h => ?_⟩, ?_⟩
        · rw [HR.out]; rfl
        · rw [HR.out]; exact ⟨rfl, rfl, rfl⟩
        · have := HO3.out.b
          repeat (first | (with_reducible exact Below.refl _ _) | (with_reducible assumption) | refine Below.setCell ?_ (by simp <;> omega) _ | refine Below.alloc ?_ (by simp <;> omega) _ | refine Below.drew ?_)
set_option maxHeartbeats 4000000 in
set_option maxRecDepth 100000 in
theorem rone_quo (s : List UInt8) (i : Nat) (w : World) (hs : s.length ≤ 20000) (hin : i < s.length) (h1 : smallC (s[i]) = false) (h2 : digitC (s[i]) = false) (h3 : (s[i]).toNat = 34) : Calls Try.prog 40 #[.string ⟨s.toArray⟩, .int .i64 (i : Int)] w fun e w' => RetO (tokL (s.drop i)) (s.drop i) i e ∧ Below w.heap.size w w' := by
  have hsz : (ByteArray.mk s.toArray).size = s.length := by simp [ByteArray.size]
  obtain ⟨c, hc⟩ : ∃ c, s[i] = c := ⟨_, rfl⟩
  have hx := ba_at s i hin hc
  have HD : Hid (s.drop i = c :: s.drop (i + 1)) := Lib.hid (by rw [List.drop_eq_getElem_cons hin, hc])
  rw [hc] at h1 h2 h3
  clear hc
  have hk : kindN c = 4 := by unfold kindN; rw [if_neg (by simp [h1]), if_neg (by simp [h2]), if_neg (by omega), if_pos h3]
  have HT : Hid (tokL (s.drop i) = quoL (s.drop i)) := Lib.hid (by rw [HD.out, tokL_cons, if_neg (by simp [h1]), if_neg (by simp [h2]), if_pos h3])
  rw [HT.out]
  clear h1 h2 h3
  go_enter Try.func40, Try.ntmps40
  go_wp2_with fail
  refine (rkind_any c _).mono ?_; rintro e w1 ⟨rfl, rfl⟩
  rw [hk]
  clear hk
  go_wp2_with fail
  generalize hW0 : ((w.alloc (.cells #[.int .i64 0, .string ⟨#[]⟩, .int .i64 0, .int .i64 0, .string ⟨#[]⟩, .int .i64 0, .int .i64 0, .int .i64 0] 45)).alloc (.cells #[.int .i64 0, .string ⟨#[]⟩, .int .i64 0, .int .i64 0, .string ⟨#[]⟩, .int .i64 0, .int .i64 0, .int .i64 0] 45)) = W0 at *
  have hO : OB w W0 := by rw [← hW0]; exact OB.start w
  have HO := Lib.hid hO
  clear hW0 hO
  refine (rquoted_any s i _ hs hin).mono ?_; rintro e w2 ⟨⟨k, x, v, rfl, hr⟩, b2⟩
  have HR := Lib.hid hr
  have HO2 := Lib.hid (HO.out.next b2)
  clear hr b2
  obtain ⟨x0, x1, x2, x3, x4, x5, x6, x7⟩ := cells8 HO2.out.t
  obtain ⟨f0, f1, f2, f3, f4, f5, f6, f7⟩ := frozen8 HO2.out.t
  obtain ⟨z0, z1, z2, z3, z4, z5, z6, z7⟩ := cells8 HO2.out.z
  obtain ⟨y0, y1, y2, y3, y4, y5, y6, y7⟩ := frozen8 HO2.out.z
  obtain ⟨E, hE⟩ : ∃ E : Int, (quoL (s.drop i)).e = E := ⟨_, rfl⟩
  obtain ⟨F, hF⟩ : ∃ F : Int, (if (quoL (s.drop i)).e = 0 then (0 : Int) else ((i + (quoL (s.drop i)).off : Nat) : Int)) = F := ⟨_, rfl⟩
  rw [hF, hE]
  have HE := Lib.hid hE
  have HF := Lib.hid hF
  clear hE hF
  unfold tk0
  go_wp2_with fail
  refine bodyPost_ret (v := .tuple #[.agg (tk0 k x v).toArray, .int .i64 E, .int .i64 F]) (by simp [results, Try.results40, go_sem, tk0, z0, z1, z2, z3, z4, z5, z6, z7]) rfl ?_
  refine ⟨⟨k, x, v, ?_, HR.out⟩, ?_⟩
  · rw [HF.out, HE.out]
  · have := HO2.out.b
    repeat (first | (with_reducible exact Below.refl _ _) | (with_reducible assumption) | refine Below.setCell ?_ (by simp <;> omega) _ | refine Below.alloc ?_ (by simp <;> omega) _ | refine Below.drew ?_)
set_option maxHeartbeats 4000000 in
set_option maxRecDepth 100000 in
theorem rone_sign (s : List UInt8) (i : Nat) (w : World) (hs : s.length ≤ 20000) (hin : i < s.length) (h1 : smallC (s[i]) = false) (h2 : digitC (s[i]) = false) (h3 : (s[i]).toNat ≠ 34) (k1 : kindN (s[i]) ≠ 1) (k2 : kindN (s[i]) ≠ 2) (k4 : kindN (s[i]) ≠ 4) : Calls Try.prog 40 #[.string ⟨s.toArray⟩, .int .i64 (i : Int)] w fun e w' => RetO (tokL (s.drop i)) (s.drop i) i e ∧ Below w.heap.size w w' := by
  have hsz : (ByteArray.mk s.toArray).size = s.length := by simp [ByteArray.size]
  obtain ⟨c, hc⟩ : ∃ c, s[i] = c := ⟨_, rfl⟩
  have hx := ba_at s i hin hc
  have HD : Hid (s.drop i = c :: s.drop (i + 1)) := Lib.hid (by rw [List.drop_eq_getElem_cons hin, hc])
  have hdl : (s.drop i).length = s.length - i := by simp
  rw [hc] at h1 h2 h3 k1 k2 k4
  clear hc
  have HT : Hid (tokL (s.drop i) = if signL (s.drop i) = 0 then ⟨10, 0, 4, 0, zeroV⟩ else ⟨0, 0, 4, signL (s.drop i), zeroV⟩) := Lib.hid (by rw [HD.out, tokL_cons, if_neg (by simp [h1]), if_neg (by simp [h2]), if_neg h3])
  have e1 : ((kindN c : Int) == 1) = false := by simp; omega
  have e2 : ((kindN c : Int) == 2) = false := by simp; omega
  have e4 : ((kindN c : Int) == 4) = false := by simp; omega
  clear h1 h2 h3 k1 k2 k4
  go_enter Try.func40, Try.ntmps40
  go_wp2_with fail
  refine (rkind_any c _).mono ?_; rintro e w1 ⟨rfl, rfl⟩
  go_wp2_with fail
  generalize hW0 : ((w.alloc (.cells #[.int .i64 0, .string ⟨#[]⟩, .int .i64 0, .int .i64 0, .string ⟨#[]⟩, .int .i64 0, .int .i64 0, .int .i64 0] 45)).alloc (.cells #[.int .i64 0, .string ⟨#[]⟩, .int .i64 0, .int .i64 0, .string ⟨#[]⟩, .int .i64 0, .int .i64 0, .int .i64 0] 45)) = W0 at *
  have hO : OB w W0 := by rw [← hW0]; exact OB.start w
  have HO := Lib.hid hO
  clear hW0 hO
  refine (rsign_any s i _ hs hin).mono ?_; rintro e w2 ⟨rfl, b2⟩
  have HO2 := Lib.hid (HO.out.next b2)
  clear b2
  obtain ⟨x0, x1, x2, x3, x4, x5, x6, x7⟩ := cells8 HO2.out.t
  obtain ⟨f0, f1, f2, f3, f4, f5, f6, f7⟩ := frozen8 HO2.out.t
  obtain ⟨z0, z1, z2, z3, z4, z5, z6, z7⟩ := cells8 HO2.out.z
  obtain ⟨y0, y1, y2, y3, y4, y5, y6, y7⟩ := frozen8 HO2.out.z
  have hsl := sign_le (s.drop i) (by omega)
  obtain ⟨m, hm⟩ : ∃ m, signL (s.drop i) = m := ⟨_, rfl⟩
  rw [hm] at hsl HT
  rw [hm]
  clear hm
  by_cases h0 : m = 0
  · have g1 : ((i : Int) + (m : Int) == (i : Int)) = true := by simp; omega
    have hwr : IntKind.i64.wrap ((i : Int) + (m : Int)) = (i : Int) := by rw [IntWalk.i64_in _ (by omega)]; omega
    have hsum : (i : Int) + (m : Int) = (i : Int) := by omega
    have HR : Hid (tokL (s.drop i) = ⟨10, 0, 4, 0, zeroV⟩) := Lib.hid (by rw [HT.out, if_pos h0])
    have HZ := Lib.hid h0
    clear h0
    go_wp2_with fail
    refine bodyPost_ret (v := .tuple #[.agg (tk0 0 [] zeroV).toArray, .int .i64 10, .int .i64 (i : Int)]) (by simp [results, Try.results40, go_sem, tk0, zeroV, z0, z1, z2, z3, z4, z5, z6, z7]) rfl ?_
    refine ⟨⟨0, [], zeroV, ?_, fun h => ?_⟩, ?_⟩
    · rw [HR.out]; rfl
    · rw [HR.out] at h; exact absurd (show (10 : Int) = 0 from h) (by decide)
    · have := HO2.out.b
      repeat (first | (with_reducible exact Below.refl _ _) | (with_reducible assumption) | refine Below.setCell ?_ (by simp <;> omega) _ | refine Below.alloc ?_ (by simp <;> omega) _ | refine Below.drew ?_)
  · obtain ⟨k, hk⟩ : ∃ k, i + m = k := ⟨_, rfl⟩
    have hsum : (i : Int) + (m : Int) = (k : Int) := by omega
    have hcut := cut_at s i m k hk.symm
    have i1 : (i : Int) ≤ (k : Int) := by omega
    have i2 : (k : Int) ≤ (s.length : Int) := by omega
    have i3 : i ≤ k := by omega
    have g1 : ((k : Int) == (i : Int)) = false := by simp; omega
    have HR : Hid (tokL (s.drop i) = ⟨0, 0, 4, m, zeroV⟩) := Lib.hid (by rw [HT.out, if_neg h0])
    have HK := Lib.hid hk
    clear h0 hk
    go_wp2_with fail
    refine bodyPost_ret (v := .tuple #[.agg (tk0 4 ((s.drop i).take m) zeroV).toArray, .int .i64 0, .int .i64 0]) (by simp [results, Try.results40, go_sem, tk0, zeroV, z0, z1, z2, z3, z4, z5, z6, z7]) rfl ?_
    refine ⟨⟨4, (s.drop i).take m, zeroV, ?_, fun h => ?_⟩, ?_⟩
    · rw [HR.out]; rfl
    · rw [HR.out]; exact ⟨rfl, rfl, rfl⟩
    · have := HO2.out.b
      repeat (first | (with_reducible exact Below.refl _ _) | (with_reducible assumption) | refine Below.setCell ?_ (by simp <;> omega) _ | refine Below.alloc ?_ (by simp <;> omega) _ | refine Below.drew ?_)
theorem rone_any (s : List UInt8) (i : Nat) (w : World) (hs : s.length ≤ 20000) (hin : i < s.length) : Calls Try.prog 40 #[.string ⟨s.toArray⟩, .int .i64 (i : Int)] w fun e w' => RetO (tokL (s.drop i)) (s.drop i) i e ∧ Below w.heap.size w w' := by
  rcases kind_cases (s[i]) with ⟨h1, hk⟩ | ⟨h1, h2, hk⟩ | ⟨h1, h2, h3, hk⟩ | ⟨h1, h2, h3, k1, k2, k4⟩
  · exact rone_word s i w hs hin h1
  · exact rone_dig s i w hs hin h1 h2
  · exact rone_quo s i w hs hin h1 h2 h3
  · exact rone_sign s i w hs hin h1 h2 h3 k1 k2 k4
end Go.Proofs.Ytpodniljpinigaa.X
