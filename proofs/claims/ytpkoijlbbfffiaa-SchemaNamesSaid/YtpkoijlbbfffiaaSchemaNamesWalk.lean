/- SchemaNames' walk: for every text and every byte it returns true. -/
import Derived.Test.YtpkoijlbbfffiaaSchPrint
import Derived.Test.YtpkoijlbbfffiaaOpen
import Derived.Deep.DeepCutAuto
namespace Go.Proofs.Ytpkoijlbbfffiaa.schemaNames
open Go.RowKit O V S

theorem cut_ba (l : List UInt8) (k m : Nat) (h : min l.length k = m) : (ByteArray.mk l.toArray).extract 0 m = ⟨(l.take k).toArray⟩ := by
  apply ByteArray.ext
  simp [List.extract_eq_take_drop]
  omega
set_option maxRecDepth 100000 in
set_option maxHeartbeats 4000000 in
theorem walk (s : ByteArray) (x : Int) (w : World) (hs : s.size ≤ maxLen) (hx : (Lit.int .u8 x).wf = true) :
    Calls Try.prog 6 #[.string s, .int .u8 x] w fun e w' => e = .returned (.bool true) ∧ Below w.heap.size w w' := by
  obtain ⟨c, rfl⟩ := wf_u8 hx
  clear hx
  obtain ⟨l0, rfl⟩ : ∃ l0 : List UInt8, s = ⟨l0.toArray⟩ := ⟨s.data.toList, by cases s; simp⟩
  have hsz : (ByteArray.mk l0.toArray).size = l0.length := by simp [ByteArray.size]
  rw [hsz] at hs
  unfold maxLen at hs
  obtain ⟨m, hm⟩ : ∃ m : Nat, min l0.length 40 = m := ⟨_, rfl⟩
  have ex : min (l0.length : Int) 40 = (m : Int) := by omega
  have hm2 : (m : Int) ≤ (l0.length : Int) := by omega
  have hcut := cut_ba l0 40 m hm
  have hll : (l0.take 40).length ≤ 40 := by simp; omega
  generalize l0.take 40 = l at hcut hll
  clear hm
  have t1 : isNameL [116, 97, 98, 108, 101] = false := by decide +kernel
  have t2 : isNameL [] = false := by decide +kernel
  have Ht1 := Lib.hid t1; clear t1
  have Ht2 := Lib.hid t2; clear t2
  have q := fun (w : World) => strq (c := 1) (l := [c]) (Rd.built w (.int .u8 (c.toNat : Int)) 5)
  have hlim : l.length + 1 ≤ 9223372036854775807 := by omega
  cases hn : isNameL l
  · have Hhn := Lib.hid hn; clear hn
    go_enter Try.func6, Try.ntmps6
    go_wp2_with fail
    refine (isName_any l _ (by omega)).mono ?_; rintro e w1 ⟨rfl, rfl⟩
    rw [Hhn.out]
    go_wp2_with fail
    refine (S.lives_any _).mono ?_; rintro e w2 ⟨rfl, b2⟩
    go_wp2_with fail
    go_ret
    exact ⟨rfl, b2⟩
  · have hmore := name_more hn c
    have Hhn := Lib.hid hn; clear hn
    have Hhmore := Lib.hid hmore; clear hmore
    go_enter Try.func6, Try.ntmps6
    go_wp2_with fail
    refine (isName_any l _ (by omega)).mono ?_; rintro e w1 ⟨rfl, rfl⟩
    rw [Hhn.out]
    go_upto_region 4 with fail
    go_cut [5] (fun a wx => a = .bool (restC c) ∧ w = wx)
    case first =>
      by_cases h97 : (c.toNat : Int) ≥ 97
      · have d1 : decide ((c.toNat : Int) ≥ 97) = true := by simp; omega
        by_cases h122 : (c.toNat : Int) ≤ 122
        · have d2 : decide ((c.toNat : Int) ≤ 122) = true := by simp; omega
          go_wp2_with fail
          go_meet
          exact ⟨by simp [restC, smallC]; omega, rfl⟩
        · have d2 : decide ((c.toNat : Int) ≤ 122) = false := by simp; omega
          have d3 : decide ((c.toNat : Int) ≥ 48) = true := by simp; omega
          have d4 : decide ((c.toNat : Int) ≤ 57) = false := by simp; omega
          have d5 : ((c.toNat : Int) == 95) = false := by simp; omega
          go_wp2_with fail
          go_meet
          exact ⟨by simp [restC, smallC, otherC]; omega, rfl⟩
      · have d1 : decide ((c.toNat : Int) ≥ 97) = false := by simp; omega
        by_cases h48 : (c.toNat : Int) ≥ 48
        · have d3 : decide ((c.toNat : Int) ≥ 48) = true := by simp; omega
          by_cases h57 : (c.toNat : Int) ≤ 57
          · have d4 : decide ((c.toNat : Int) ≤ 57) = true := by simp; omega
            go_wp2_with fail
            go_meet
            exact ⟨by simp [restC, smallC, otherC]; omega, rfl⟩
          · have d4 : decide ((c.toNat : Int) ≤ 57) = false := by simp; omega
            by_cases h95 : c.toNat = 95
            · have d5 : ((c.toNat : Int) == 95) = true := by simp; omega
              have hr : Hid (restC c = true) := Lib.hid (by simp [restC, smallC, otherC]; omega)
              clear h95
              go_wp2_with fail
              go_meet
              exact ⟨by rw [hr.out], rfl⟩
            · have d5 : ((c.toNat : Int) == 95) = false := by simp; omega
              go_wp2_with fail
              go_meet
              exact ⟨by simp [restC, smallC, otherC]; omega, rfl⟩
        · have d3 : decide ((c.toNat : Int) ≥ 48) = false := by simp; omega
          have d5 : ((c.toNat : Int) == 95) = false := by simp; omega
          go_wp2_with fail
          go_meet
          exact ⟨by simp [restC, smallC, otherC]; omega, rfl⟩
    case rest =>
      obtain ⟨rfl, rfl⟩ := hcut
      have hsz2 : (ByteArray.mk (l ++ [c]).toArray).size = l.length + 1 := by simp [ByteArray.size]
      go_wp2_with fail
      rw [show (ByteArray.mk l.toArray) ++ (ByteArray.mk #[c]) = ByteArray.mk (l ++ [c]).toArray from ba_append l [c]]
      refine (isName_any (l ++ [c]) _ (by simp; omega)).mono ?_; rintro e w1 ⟨rfl, rfl⟩
      rw [Hhmore.out]
      cases hr : restC c
      · go_wp2_with fail
        refine (isName_any [116, 97, 98, 108, 101] _ (by simp)).mono ?_; rintro e w1 ⟨rfl, rfl⟩
        rw [Ht1.out]
        go_wp2_with fail
        refine (isName_any [] _ (by simp)).mono ?_; rintro e w1 ⟨rfl, rfl⟩
        rw [Ht2.out]
        go_wp2_with fail
        refine (S.lives_any _).mono ?_; rintro e w2 ⟨rfl, b2⟩
        go_wp2_with fail
        go_ret
        exact ⟨rfl, bthen ((Below.refl _ _).alloc (Nat.le_refl _) _) b2⟩
      · by_cases h16 : l.length + 1 ≤ 16
        · have d1 : decide (l.length + 1 ≤ 16) = true := by simp; omega
          have d1' : decide ((l.length : Int) + 1 ≤ 16) = true := by simp; omega
          go_wp2_with fail
          refine (risWord_any (l ++ [c]) _).mono ?_; rintro e w3 ⟨rfl, b3⟩
          have B3 := bthen ((Below.refl w.heap.size w).alloc (Nat.le_refl _) (.cells #[.int .u8 (c.toNat : Int)] 5)) b3
          generalize isWordL (l ++ [c]) = bw
          cases bw
          all_goals
            go_wp2_with fail
            refine (isName_any [116, 97, 98, 108, 101] _ (by simp)).mono ?_; rintro e w1 ⟨rfl, rfl⟩
            rw [Ht1.out]
            go_wp2_with fail
            refine (isName_any [] _ (by simp)).mono ?_; rintro e w1 ⟨rfl, rfl⟩
            rw [Ht2.out]
            go_wp2_with fail
            refine (S.lives_any _).mono ?_; rintro e w2 ⟨rfl, b2⟩
            go_wp2_with fail
            go_ret
            exact ⟨rfl, bthen B3 b2⟩
        · have d1 : decide (l.length + 1 ≤ 16) = false := by simp; omega
          have d1' : decide ((l.length : Int) + 1 ≤ 16) = false := by simp; omega
          go_wp2_with fail
          refine (isName_any [116, 97, 98, 108, 101] _ (by simp)).mono ?_; rintro e w1 ⟨rfl, rfl⟩
          rw [Ht1.out]
          go_wp2_with fail
          refine (isName_any [] _ (by simp)).mono ?_; rintro e w1 ⟨rfl, rfl⟩
          rw [Ht2.out]
          go_wp2_with fail
          refine (S.lives_any _).mono ?_; rintro e w2 ⟨rfl, b2⟩
          go_wp2_with fail
          go_ret
          exact ⟨rfl, bthen ((Below.refl _ _).alloc (Nat.le_refl _) _) b2⟩
end Go.Proofs.Ytpkoijlbbfffiaa.schemaNames
