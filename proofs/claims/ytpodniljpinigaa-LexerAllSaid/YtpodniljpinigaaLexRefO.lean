/- The contract of the reference's one (layer 8). -/
import Derived.Test.YtpodniljpinigaaLexRefQ
import Derived.Test.YtpodniljpinigaaLexRefN
import Derived.Test.YtpodniljpinigaaValRParse2
namespace Go.Proofs.Ytpodniljpinigaa.X
open Go.RowKit O V S

theorem kind_word1 {c : UInt8} (h : wordC c = true) : decide ((kindN c : Int) ≥ 1) = true ∧ decide ((kindN c : Int) ≤ 3) = true := by
  rw [kind_word, Bool.and_eq_true, decide_eq_true_eq, decide_eq_true_eq] at h
  simp; omega
theorem kind_word0 {c : UInt8} (h : wordC c = false) : decide ((kindN c : Int) ≥ 1) = false ∨ (decide ((kindN c : Int) ≥ 1) = true ∧ decide ((kindN c : Int) ≤ 3) = false) := by
  rw [kind_word] at h
  by_cases h1 : 1 ≤ kindN c
  · right
    simp [h1] at h
    simp; omega
  · left; simp; omega
theorem kind_cases (c : UInt8) : (smallC c = true ∧ kindN c = 1) ∨ (smallC c = false ∧ digitC c = true ∧ kindN c = 2) ∨ (smallC c = false ∧ digitC c = false ∧ c.toNat = 34 ∧ kindN c = 4) ∨ (smallC c = false ∧ digitC c = false ∧ c.toNat ≠ 34 ∧ kindN c ≠ 1 ∧ kindN c ≠ 2 ∧ kindN c ≠ 4) := by
  unfold kindN
  cases h1 : smallC c
  · cases h2 : digitC c
    · by_cases h3 : c.toNat = 34
      · right; right; left; simp [h3]
      · right; right; right
        refine ⟨rfl, rfl, h3, ?_⟩
        simp [h3]
        repeat' split
        all_goals simp
    · right; left; simp
  · left; simp
/-- The two boxes of the reference's one. -/
structure OB (w W : World) : Prop where
  z : W.heap[w.heap.size]? = some (.cells #[.int .i64 0, .string ⟨#[]⟩, .int .i64 0, .int .i64 0, .string ⟨#[]⟩, .int .i64 0, .int .i64 0, .int .i64 0] 45 (0, 0))
  t : W.heap[w.heap.size + 1]? = some (.cells #[.int .i64 0, .string ⟨#[]⟩, .int .i64 0, .int .i64 0, .string ⟨#[]⟩, .int .i64 0, .int .i64 0, .int .i64 0] 45 (0, 0))
  b : Below w.heap.size w W
theorem OB.start (w : World) : OB w ((w.alloc (.cells #[.int .i64 0, .string ⟨#[]⟩, .int .i64 0, .int .i64 0, .string ⟨#[]⟩, .int .i64 0, .int .i64 0, .int .i64 0] 45)).alloc (.cells #[.int .i64 0, .string ⟨#[]⟩, .int .i64 0, .int .i64 0, .string ⟨#[]⟩, .int .i64 0, .int .i64 0, .int .i64 0] 45)) :=
  ⟨alloc_old' (alloc_at rfl), alloc_at (by simp), by repeat (first | exact Below.refl _ _ | refine Below.alloc ?_ (by simp <;> omega) _)⟩
theorem OB.next {w W W' : World} (h : OB w W) (b : Below W.heap.size W W') : OB w W' := ⟨box_next h.z b, box_next h.t b, bthen h.b b⟩
set_option maxHeartbeats 4000000 in
set_option maxRecDepth 100000 in
theorem rone_word (s : List UInt8) (i : Nat) (w : World) (hs : s.length ≤ 20000) (hin : i < s.length) (h1 : smallC (s[i]) = true) : Calls Try.prog 40 #[.string ⟨s.toArray⟩, .int .i64 (i : Int)] w fun e w' => RetO (tokL (s.drop i)) (s.drop i) i e ∧ Below w.heap.size w w' := by
  have hsz : (ByteArray.mk s.toArray).size = s.length := by simp [ByteArray.size]
  obtain ⟨c, hc⟩ : ∃ c, s[i] = c := ⟨_, rfl⟩
  have hx := ba_at s i hin hc
  have HD : Hid (s.drop i = c :: s.drop (i + 1)) := Lib.hid (by rw [List.drop_eq_getElem_cons hin, hc])
  have hdl : (s.drop i).length = s.length - i := by simp
  rw [hc] at h1
  clear hc
  have hk : kindN c = 1 := by unfold kindN; rw [if_pos h1]
  have HT : Hid (tokL (s.drop i) = if runLen wordC (s.drop i) > 16 then ⟨2, 0, 1, 0, zeroV⟩ else ⟨0, 0, 1, runLen wordC (s.drop i), zeroV⟩) := Lib.hid (by rw [HD.out, tokL_cons, if_pos h1])
  have hw1 : Hid (((s.drop i).take 1).all wordC = true) := Lib.hid (by rw [HD.out]; simp [wordC, h1])
  clear h1
  go_enter Try.func40, Try.ntmps40
  go_wp2_with fail
  refine (rkind_any c _).mono ?_; rintro e w1 ⟨rfl, rfl⟩
  rw [hk]
  clear hk
  go_wp2_with fail
  generalize hW0 : ((w.alloc (.cells #[.int .i64 0, .string ⟨#[]⟩, .int .i64 0, .int .i64 0, .string ⟨#[]⟩, .int .i64 0, .int .i64 0, .int .i64 0] 45)).alloc (.cells #[.int .i64 0, .string ⟨#[]⟩, .int .i64 0, .int .i64 0, .string ⟨#[]⟩, .int .i64 0, .int .i64 0, .int .i64 0] 45)) = W0 at *
  have hO : OB w W0 := by rw [← hW0]; exact OB.start w
  have HO := Lib.hid hO
  clear hW0 hO
  go_loop [8] (fun v => ∃ m : Nat, 1 ≤ m ∧ i + m ≤ s.length ∧ v = .int .i64 ((i + m : Nat) : Int) ∧ Hid (((s.drop i).take m).all wordC = true)) (fun v => s.length - (intOf v).toNat)
  case atStart => exact ⟨1, by omega, by omega, rfl, hw1⟩
  case round =>
    obtain ⟨m, hm1, hml, rfl, H⟩ := hrel
    obtain ⟨x0, x1, x2, x3, x4, x5, x6, x7⟩ := cells8 HO.out.t
    obtain ⟨f0, f1, f2, f3, f4, f5, f6, f7⟩ := frozen8 HO.out.t
    obtain ⟨z0, z1, z2, z3, z4, z5, z6, z7⟩ := cells8 HO.out.z
    obtain ⟨y0, y1, y2, y3, y4, y5, y6, y7⟩ := frozen8 HO.out.z
    obtain ⟨k, hk⟩ : ∃ k, i + m = k := ⟨_, rfl⟩
    have HK := Lib.hid hk
    rw [hk]
    rw [hk] at hml
    by_cases hlt : k < s.length
    · have hlt' : m < (s.drop i).length := by omega
      have hst := Lib.hid (all_snoc (p := wordC) hlt' H.out)
      have hno := Lib.hid (run_step (p := wordC) hlt' H.out)
      obtain ⟨d, hd⟩ : ∃ d, (s.drop i)[m] = d := ⟨_, rfl⟩
      rw [hd] at hst hno
      rw [List.getElem_drop] at hd
      have hx2 := ba_at s k hlt (by simpa only [hk] using hd)
      have hki : (k : Int) < (s.length : Int) := by omega
      clear hd hk
      cases hp : wordC d
      · have hrl : runLen wordC (s.drop i) = m := hno.out.trans (if_neg (by simp [hp]))
        rcases kind_word0 hp with g0 | ⟨g0, g3⟩
        · clear hp hno hst hlt'
          have HRL := Lib.hid hrl
          have hcut := cut_at s i m k (by have := HK.out; omega)
          have i1 : (i : Int) ≤ (k : Int) := by have := HK.out; omega
          have i2 : (k : Int) ≤ (s.length : Int) := by have := HK.out; omega
          have i3 : i ≤ k := by have := HK.out; omega
          have hwr : IntKind.i64.wrap ((k : Int) - (i : Int)) = (m : Int) := by rw [IntWalk.i64_in _ (by omega)]; have := HK.out; omega
          have hsub : (k : Int) - (i : Int) = (m : Int) := by have := HK.out; omega
          by_cases h16 : m > 16
          · have g1 : decide ((m : Int) > 16) = true := by simp; omega
            have HR : Hid (tokL (s.drop i) = ⟨2, 0, 1, 0, zeroV⟩) := Lib.hid (by rw [HT.out, HRL.out, if_pos h16])
            clear h16 hrl
            go_wp2_with fail
            refine (rkind_any d _).mono ?_; rintro e w1 ⟨rfl, rfl⟩
            go_wp2_with fail
            refine bodyPost_ret (v := .tuple #[.agg (tk0 1 [] zeroV).toArray, .int .i64 2, .int .i64 (i : Int)]) (by simp [results, Try.results40, go_sem, tk0, zeroV, z0, z1, z2, z3, z4, z5, z6, z7]) rfl ?_
            refine ⟨⟨1, [], zeroV, ?_, fun h => ?_⟩, ?_⟩
            · rw [HR.out]; rfl
            · rw [HR.out] at h; exact absurd (show (2 : Int) = 0 from h) (by decide)
            · have := HO.out.b
              repeat (first | (with_reducible exact Below.refl _ _) | (with_reducible assumption) | refine Below.setCell ?_ (by simp <;> omega) _ | refine Below.alloc ?_ (by simp <;> omega) _ | refine Below.drew ?_)
          · have g1 : decide ((m : Int) > 16) = false := by simp; omega
            have HR : Hid (tokL (s.drop i) = ⟨0, 0, 1, m, zeroV⟩) := Lib.hid (by rw [HT.out, HRL.out, if_neg h16])
            clear h16 hrl
            go_wp2_with fail
            refine (rkind_any d _).mono ?_; rintro e w1 ⟨rfl, rfl⟩
            go_wp2_with fail
            refine bodyPost_ret (v := .tuple #[.agg (tk0 1 ((s.drop i).take m) zeroV).toArray, .int .i64 0, .int .i64 0]) (by simp [results, Try.results40, go_sem, tk0, zeroV, z0, z1, z2, z3, z4, z5, z6, z7]) rfl ?_
            refine ⟨⟨1, (s.drop i).take m, zeroV, ?_, fun h => ?_⟩, ?_⟩
            · rw [HR.out]; rfl
            · rw [HR.out]; exact ⟨rfl, rfl, rfl⟩
            · have := HO.out.b
              repeat (first | (with_reducible exact Below.refl _ _) | (with_reducible assumption) | refine Below.setCell ?_ (by simp <;> omega) _ | refine Below.alloc ?_ (by simp <;> omega) _ | refine Below.drew ?_)
        · clear hp hno hst hlt'
          have HRL := Lib.hid hrl
          have hcut := cut_at s i m k (by have := HK.out; omega)
          have i1 : (i : Int) ≤ (k : Int) := by have := HK.out; omega
          have i2 : (k : Int) ≤ (s.length : Int) := by have := HK.out; omega
          have i3 : i ≤ k := by have := HK.out; omega
          have hwr : IntKind.i64.wrap ((k : Int) - (i : Int)) = (m : Int) := by rw [IntWalk.i64_in _ (by omega)]; have := HK.out; omega
          have hsub : (k : Int) - (i : Int) = (m : Int) := by have := HK.out; omega
          by_cases h16 : m > 16
          · have g1 : decide ((m : Int) > 16) = true := by simp; omega
            have HR : Hid (tokL (s.drop i) = ⟨2, 0, 1, 0, zeroV⟩) := Lib.hid (by rw [HT.out, HRL.out, if_pos h16])
            clear h16 hrl
            go_wp2_with fail
            refine (rkind_any d _).mono ?_; rintro e w1 ⟨rfl, rfl⟩
            go_wp2_with fail
            refine (rkind_any d _).mono ?_; rintro e w1 ⟨rfl, rfl⟩
            go_wp2_with fail
            refine bodyPost_ret (v := .tuple #[.agg (tk0 1 [] zeroV).toArray, .int .i64 2, .int .i64 (i : Int)]) (by simp [results, Try.results40, go_sem, tk0, zeroV, z0, z1, z2, z3, z4, z5, z6, z7]) rfl ?_
            refine ⟨⟨1, [], zeroV, ?_, fun h => ?_⟩, ?_⟩
            · rw [HR.out]; rfl
            · rw [HR.out] at h; exact absurd (show (2 : Int) = 0 from h) (by decide)
            · have := HO.out.b
              repeat (first | (with_reducible exact Below.refl _ _) | (with_reducible assumption) | refine Below.setCell ?_ (by simp <;> omega) _ | refine Below.alloc ?_ (by simp <;> omega) _ | refine Below.drew ?_)
          · have g1 : decide ((m : Int) > 16) = false := by simp; omega
            have HR : Hid (tokL (s.drop i) = ⟨0, 0, 1, m, zeroV⟩) := Lib.hid (by rw [HT.out, HRL.out, if_neg h16])
            clear h16 hrl
            go_wp2_with fail
            refine (rkind_any d _).mono ?_; rintro e w1 ⟨rfl, rfl⟩
            go_wp2_with fail
            refine (rkind_any d _).mono ?_; rintro e w1 ⟨rfl, rfl⟩
            go_wp2_with fail
            refine bodyPost_ret (v := .tuple #[.agg (tk0 1 ((s.drop i).take m) zeroV).toArray, .int .i64 0, .int .i64 0]) (by simp [results, Try.results40, go_sem, tk0, zeroV, z0, z1, z2, z3, z4, z5, z6, z7]) rfl ?_
            refine ⟨⟨1, (s.drop i).take m, zeroV, ?_, fun h => ?_⟩, ?_⟩
            · rw [HR.out]; rfl
            · rw [HR.out]; exact ⟨rfl, rfl, rfl⟩
            · have := HO.out.b
              repeat (first | (with_reducible exact Below.refl _ _) | (with_reducible assumption) | refine Below.setCell ?_ (by simp <;> omega) _ | refine Below.alloc ?_ (by simp <;> omega) _ | refine Below.drew ?_)
      · obtain ⟨g0, g3⟩ := kind_word1 hp
        have hst' := Lib.hid (hst.out hp)
        clear hp
        go_wp2_with fail
        refine (rkind_any d _).mono ?_; rintro e w1 ⟨rfl, rfl⟩
        go_wp2_with fail
        refine (rkind_any d _).mono ?_; rintro e w1 ⟨rfl, rfl⟩
        go_wp2_with fail
        go_round
        case rel => exact ⟨m + 1, by omega, by have := HK.out; omega, congrArg (Value.int .i64) (by have := HK.out; omega), hst'⟩
        case measure => simp [intOf]; omega
    · have hrl : runLen wordC (s.drop i) = m := by
        have h1 := H.out
        rw [List.take_of_length_le (by omega)] at h1
        rw [run_all h1]; omega
      have hki : ¬ (k : Int) < (s.length : Int) := by omega
      clear hk
      have HRL := Lib.hid hrl
      have hcut := cut_at s i m k (by have := HK.out; omega)
      have i1 : (i : Int) ≤ (k : Int) := by have := HK.out; omega
      have i2 : (k : Int) ≤ (s.length : Int) := by have := HK.out; omega
      have i3 : i ≤ k := by have := HK.out; omega
      have hwr : IntKind.i64.wrap ((k : Int) - (i : Int)) = (m : Int) := by rw [IntWalk.i64_in _ (by omega)]; have := HK.out; omega
      have hsub : (k : Int) - (i : Int) = (m : Int) := by have := HK.out; omega
      by_cases h16 : m > 16
      · have g1 : decide ((m : Int) > 16) = true := by simp; omega
        have HR : Hid (tokL (s.drop i) = ⟨2, 0, 1, 0, zeroV⟩) := Lib.hid (by rw [HT.out, HRL.out, if_pos h16])
        clear h16 hrl
        go_wp2_with fail
        refine bodyPost_ret (v := .tuple #[.agg (tk0 1 [] zeroV).toArray, .int .i64 2, .int .i64 (i : Int)]) (by simp [results, Try.results40, go_sem, tk0, zeroV, z0, z1, z2, z3, z4, z5, z6, z7]) rfl ?_
        refine ⟨⟨1, [], zeroV, ?_, fun h => ?_⟩, ?_⟩
        · rw [HR.out]; rfl
        · rw [HR.out] at h; exact absurd (show (2 : Int) = 0 from h) (by decide)
        · have := HO.out.b
          repeat (first | (with_reducible exact Below.refl _ _) | (with_reducible assumption) | refine Below.setCell ?_ (by simp <;> omega) _ | refine Below.alloc ?_ (by simp <;> omega) _ | refine Below.drew ?_)
      · have g1 : decide ((m : Int) > 16) = false := by simp; omega
        have HR : Hid (tokL (s.drop i) = ⟨0, 0, 1, m, zeroV⟩) := Lib.hid (by rw [HT.out, HRL.out, if_neg h16])
        clear h16 hrl
        go_wp2_with fail
        refine bodyPost_ret (v := .tuple #[.agg (tk0 1 ((s.drop i).take m) zeroV).toArray, .int .i64 0, .int .i64 0]) (by simp [results, Try.results40, go_sem, tk0, zeroV, z0, z1, z2, z3, z4, z5, z6, z7]) rfl ?_
        refine ⟨⟨1, (s.drop i).take m, zeroV, ?_, fun h => ?_⟩, ?_⟩
        · rw [HR.out]; rfl
        · rw [HR.out]; exact ⟨rfl, rfl, rfl⟩
        · have := HO.out.b
          repeat (first | (with_reducible exact Below.refl _ _) | (with_reducible assumption) | refine Below.setCell ?_ (by simp <;> omega) _ | refine Below.alloc ?_ (by simp <;> omega) _ | refine Below.drew ?_)
end Go.Proofs.Ytpodniljpinigaa.X
