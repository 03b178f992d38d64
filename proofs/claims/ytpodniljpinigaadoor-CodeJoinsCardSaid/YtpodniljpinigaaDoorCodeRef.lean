/- The contracts of the reference's word, Fields (layer 15). -/
import Derived.Test.YtpodniljpinigaaDoorCodePlain2
import Derived.Test.YtpodniljpinigaaDoorCodeFns
import Derived.Test.YtpodniljpinigaaDoorSched
namespace Go.Proofs.YtpodniljpinigaaDoor.C
open Go.RowKit O V

theorem cut_at (s : List UInt8) (i n m : Nat) (h : m = i + n) : (ByteArray.mk s.toArray).extract i m = ⟨((s.drop i).take n).toArray⟩ := by
  subst h
  apply ByteArray.ext
  simp [List.extract_eq_take_drop, List.take_drop]
theorem while_step {t : List UInt8} {m : Nat} (h : m < t.length) (ha : (t.take m).all nb = true) : (nb t[m] = false → cutW t = t.take m) ∧ (nb t[m] = true → (t.take (m + 1)).all nb = true) := by
  constructor
  · intro hp
    have e : t = t.take m ++ t[m] :: t.drop (m + 1) := by
      rw [← List.drop_eq_getElem_cons h, List.take_append_drop]
    have h1 : ∀ (a b : List UInt8), a.all nb = true → (a ++ b).takeWhile nb = a ++ b.takeWhile nb := by
      intro a b
      induction a with
      | nil => intro _; rfl
      | cons c a ih =>
        intro h
        simp only [List.all_cons, Bool.and_eq_true] at h
        simp [List.takeWhile_cons, h.1, ih h.2]
    unfold cutW
    conv => lhs; rw [e]
    rw [h1 _ _ ha, List.takeWhile_cons, hp]
    simp
  · intro hp
    rw [List.take_succ_eq_append_getElem h, List.all_append, ha]; simp [hp]
theorem while_all {t : List UInt8} (ha : t.all nb = true) : cutW t = t := by
  unfold cutW
  induction t with
  | nil => rfl
  | cons c t ih =>
    simp only [List.all_cons, Bool.and_eq_true] at ha
    rw [List.takeWhile_cons, if_pos ha.1, ih ha.2]
set_option maxHeartbeats 1000000 in
set_option maxRecDepth 100000 in
theorem word_any (s : List UInt8) (i : Nat) (w : World) (hs : s.length ≤ 100000) (hi : i ≤ 1000000) : Calls Tryd.prog 29 #[.string ⟨s.toArray⟩, .int .i64 (i : Int)] w fun e w' => e = .returned (.string ⟨(cutW (s.drop i)).toArray⟩) ∧ w = w' := by
  have hsz : (ByteArray.mk s.toArray).size = s.length := by simp [ByteArray.size]
  have hdl : (s.drop i).length = s.length - i := by simp
  go_enter Tryd.func29, Tryd.ntmps29
  go_wp2_with fail
  go_loop [5] (fun v => ∃ m : Nat, (m = 0 ∨ i + m ≤ s.length) ∧ v = .int .i64 ((i + m : Nat) : Int) ∧ Hid (((s.drop i).take m).all nb = true)) (fun v => s.length - (intOf v).toNat)
  case atStart => exact ⟨0, .inl rfl, rfl, Lib.hid (by simp)⟩
  case round =>
    obtain ⟨m, hm, rfl, H⟩ := hrel
    obtain ⟨k, hk⟩ : ∃ k, i + m = k := ⟨_, rfl⟩
    have HK := Lib.hid hk
    rw [hk]
    by_cases hlt : k < s.length
    · have hlt' : m < (s.drop i).length := by omega
      have hst := Lib.hid (while_step hlt' H.out)
      obtain ⟨d, hd⟩ : ∃ d, (s.drop i)[m] = d := ⟨_, rfl⟩
      rw [hd] at hst
      rw [List.getElem_drop] at hd
      have hx := ba_at s k hlt (by simpa only [hk] using hd)
      have hki : (k : Int) < (s.length : Int) := by omega
      have hcut := cut_at s i m k (by omega)
      have i1 : (i : Int) ≤ (k : Int) := by omega
      have i2 : (k : Int) ≤ (s.length : Int) := by omega
      have i3 : i ≤ k := by omega
      have hgt : decide ((i : Int) > (s.length : Int)) = false := by simp; omega
      clear hd hk hm
      cases hp : nb d
      · have e32 : ((d.toNat : Int) != 32) = false := by simp [nb] at hp; simp; omega
        have hres := Lib.hid (hst.out.1 hp)
        clear hp
        go_wp2_with fail
        go_ret
        exact ⟨by rw [hres.out]; rfl, rfl⟩
      · have e32 : ((d.toNat : Int) != 32) = true := by simp [nb] at hp; simp; omega
        have hst' := Lib.hid (hst.out.2 hp)
        clear hp
        go_wp2_with fail
        go_round
        case rel => exact ⟨m + 1, .inr (by have := HK.out; omega), congrArg (Value.int .i64) (by have := HK.out; omega), hst'⟩
        case measure => simp [intOf]; omega
    · have hki : ¬ (k : Int) < (s.length : Int) := by omega
      by_cases hgt : i ≤ s.length
      · have hres : Hid (cutW (s.drop i) = (s.drop i).take m) := Lib.hid (by
          have h1 := H.out
          rw [List.take_of_length_le (by omega)] at h1 ⊢
          exact while_all h1)
        have hkl : k ≤ s.length := by omega
        have hcut := cut_at s i m k (by omega)
        have i1 : (i : Int) ≤ (k : Int) := by omega
        have i2 : (k : Int) ≤ (s.length : Int) := by omega
        have i3 : i ≤ k := by omega
        have g1 : decide ((i : Int) > (s.length : Int)) = false := by simp; omega
        clear hk hm
        go_wp2_with fail
        go_ret
        exact ⟨by rw [hres.out]; rfl, rfl⟩
      · have g1 : decide ((i : Int) > (s.length : Int)) = true := by simp; omega
        have hres : Hid (cutW (s.drop i) = []) := Lib.hid (by rw [List.drop_of_length_le (by omega)]; rfl)
        clear hk hm
        go_wp2_with fail
        go_ret
        exact ⟨by rw [hres.out]; rfl, rfl⟩
theorem count_at {k : Nat} (h : k < (ByteArray.mk #[49, 50, 51, 52, 52, 51, 52, 51, 52, 50, 49, 50, 52, 51, 49, 48, 48]).size) : (((ByteArray.mk #[49, 50, 51, 52, 52, 51, 52, 51, 52, 50, 49, 50, 52, 51, 49, 48, 48])[k]'h).toNat : Int) = (fieldsI ((k + 1 : Nat) : Int) : Int) + 48 := by
  have : ∀ k : Fin 17, (((ByteArray.mk #[49, 50, 51, 52, 52, 51, 52, 51, 52, 50, 49, 50, 52, 51, 49, 48, 48])[k.val]'k.isLt).toNat : Int) = (fieldsI ((k.val + 1 : Nat) : Int) : Int) + 48 := by decide +kernel
  exact this ⟨k, h⟩
theorem fields_out {op : Int} (h : ¬ (1 ≤ op ∧ op ≤ 17)) : fieldsI op = 0 := by unfold fieldsI kindI; rw [if_neg h]
set_option maxHeartbeats 1000000 in
set_option maxRecDepth 100000 in
theorem rfields_any (op : Int) (w : World) : Calls Tryd.prog 19 #[.int .i64 op] w fun e w' => e = .returned (.int .i64 (fieldsI op)) ∧ w = w' := by
  by_cases h1 : 1 ≤ op
  · by_cases h2 : op ≤ 17
    · obtain ⟨n, rfl⟩ : ∃ n : Nat, op = n := ⟨op.toNat, by omega⟩
      obtain ⟨k, hk⟩ : ∃ k, n = k + 1 := ⟨n - 1, by omega⟩
      have hk17 : k < 17 := by omega
      have hlt : k < (ByteArray.mk #[49, 50, 51, 52, 52, 51, 52, 51, 52, 50, 49, 50, 52, 51, 49, 48, 48]).size := hk17
      have hc := count_at hlt
      obtain ⟨c, hcc⟩ : ∃ c, (ByteArray.mk #[49, 50, 51, 52, 52, 51, 52, 51, 52, 50, 49, 50, 52, 51, 49, 48, 48])[k]'hlt = c := ⟨_, rfl⟩
      rw [hcc, ← hk] at hc
      have d1 : decide ((n : Int) < 1) = false := by simp; omega
      have d2 : decide ((n : Int) > 17) = false := by simp; omega
      have hwr : (n : Int) - 1 = (k : Int) := by omega
      have hki : (k : Int) < 17 := by omega
      have hcl := c.toNat_lt
      have HC := Lib.hid hc
      clear hc hk
      generalize fieldsI (n : Int) = F at *
      go_enter Tryd.func19, Tryd.ntmps19
      go_wp2_with fail
      go_ret
      exact ⟨ret_int (by have := HC.out; omega), rfl⟩
    · have hn := fields_out (op := op) (by omega)
      rw [hn]
      have d1 : decide (op < 1) = false := by simp; omega
      have d2 : decide (op > 17) = true := by simp; omega
      clear hn
      go_enter Tryd.func19, Tryd.ntmps19
      go_wp2_with fail
      go_ret
      exact ⟨rfl, rfl⟩
  · have hn := fields_out (op := op) (by omega)
    rw [hn]
    have d1 : decide (op < 1) = true := by simp; omega
    clear hn
    go_enter Tryd.func19, Tryd.ntmps19
    go_wp2_with fail
    go_ret
    exact ⟨rfl, rfl⟩
end Go.Proofs.YtpodniljpinigaaDoor.C
