/- The contract of the reference's Name (layer 15). -/
import Derived.Test.YtpodniljpinigaaDoorCodeRef
namespace Go.Proofs.YtpodniljpinigaaDoor.C
open Go.RowKit O V

def padN (op : Int) : List UInt8 := nameI op ++ List.replicate (7 - (nameI op).length) 32
theorem pad_at {k : Nat} (h : k < 17) : (ByteArray.mk #[118, 97, 108, 117, 101, 32, 32, 109, 111, 118, 101, 32, 32, 32, 117, 110, 97, 114, 121, 32, 32, 98, 105, 110, 97, 114, 121, 32, 99, 101, 108, 108, 32, 32, 32, 104, 97, 115, 32, 32, 32, 32, 115, 117, 109, 32, 32, 32, 32, 99, 111, 117, 110, 116, 32, 32, 112, 117, 116, 32, 32, 32, 32, 100, 101, 108, 32, 32, 32, 32, 106, 117, 109, 112, 32, 32, 32, 102, 97, 108, 115, 101, 32, 32, 107, 101, 121, 115, 32, 32, 32, 110, 101, 120, 116, 32, 32, 32, 101, 109, 105, 116, 32, 32, 32, 98, 97, 99, 107, 32, 32, 32, 101, 110, 100, 32, 32, 32, 32]).extract (7 * k) (7 * k + 7) = ⟨(padN ((k + 1 : Nat) : Int)).toArray⟩ := by
  have : ∀ k : Fin 17, (ByteArray.mk #[118, 97, 108, 117, 101, 32, 32, 109, 111, 118, 101, 32, 32, 32, 117, 110, 97, 114, 121, 32, 32, 98, 105, 110, 97, 114, 121, 32, 99, 101, 108, 108, 32, 32, 32, 104, 97, 115, 32, 32, 32, 32, 115, 117, 109, 32, 32, 32, 32, 99, 111, 117, 110, 116, 32, 32, 112, 117, 116, 32, 32, 32, 32, 100, 101, 108, 32, 32, 32, 32, 106, 117, 109, 112, 32, 32, 32, 102, 97, 108, 115, 101, 32, 32, 107, 101, 121, 115, 32, 32, 32, 110, 101, 120, 116, 32, 32, 32, 101, 109, 105, 116, 32, 32, 32, 98, 97, 99, 107, 32, 32, 32, 101, 110, 100, 32, 32, 32, 32]).extract (7 * k.val) (7 * k.val + 7) = ⟨(padN ((k.val + 1 : Nat) : Int)).toArray⟩ := by decide +kernel
  exact this ⟨k, h⟩
theorem name_pos : ∀ k : Fin 17, 1 ≤ (nameI ((k.val + 1 : Nat) : Int)).length ∧ (nameI ((k.val + 1 : Nat) : Int)).length ≤ 7 ∧ (nameI ((k.val + 1 : Nat) : Int)).all nb = true := by decide +kernel
def lenOf (v : Value) : Nat := match v with
  | .string b => b.size
  | _ => 0
set_option maxHeartbeats 1000000 in
set_option maxRecDepth 100000 in
theorem rname_any (op : Int) (w : World) : Calls Tryd.prog 30 #[.int .i64 op] w fun e w' => e = .returned (.string ⟨(nameI op).toArray⟩) ∧ w = w' := by
  by_cases h1 : 1 ≤ op
  · by_cases h2 : op ≤ 17
    · obtain ⟨n, rfl⟩ : ∃ n : Nat, op = n := ⟨op.toNat, by omega⟩
      obtain ⟨k, hk⟩ : ∃ k, n = k + 1 := ⟨n - 1, by omega⟩
      have hk17 : k < 17 := by omega
      have hp := pad_at hk17
      have hnp := name_pos ⟨k, hk17⟩
      simp only [← hk] at hp hnp
      obtain ⟨a, ha⟩ : ∃ a, 7 * k = a := ⟨_, rfl⟩
      obtain ⟨b, hb⟩ : ∃ b, 7 * k + 7 = b := ⟨_, rfl⟩
      rw [hb, ha] at hp
      have d1 : decide ((n : Int) < 1) = false := by simp; omega
      have d2 : decide ((n : Int) > 17) = false := by simp; omega
      have e1 : 7 * (n : Int) - 7 = (a : Int) := by omega
      have e2 : 7 * (n : Int) = (b : Int) := by omega
      have i1 : (a : Int) ≤ (b : Int) := by omega
      have i2 : (b : Int) ≤ 119 := by omega
      have i3 : a ≤ b := by omega
      have i4 : b ≤ 119 := by omega
      have w1 : IntKind.i64.wrap (7 * (n : Int)) = (b : Int) := by rw [IntWalk.i64_in _ (by omega)]; omega
      have w2 : IntKind.i64.wrap ((b : Int) - 7) = (a : Int) := by rw [IntWalk.i64_in _ (by omega)]; omega
      clear hk ha hb
      have HNP := Lib.hid hnp
      clear hnp
      go_enter Tryd.func30, Tryd.ntmps30
      go_wp2_with fail
      clear hp e1 e2 w1 w2 i1 i2 i3 i4 d1 d2
      obtain ⟨x, hx⟩ : ∃ x, padN (n : Int) = x := ⟨_, rfl⟩
      obtain ⟨N, hN⟩ : ∃ N, nameI (n : Int) = N := ⟨_, rfl⟩
      have hxN : x = N ++ List.replicate (7 - N.length) 32 := by rw [← hx, ← hN]; rfl
      rw [hN] at HNP
      rw [hx]
      have HNI := Lib.hid hN
      obtain ⟨p1, p2, p3⟩ := HNP.out
      have hxl : x.length = 7 := by rw [hxN]; simp; omega
      have HX := Lib.hid hxN
      clear hx hN hxN
      go_loop [4] (fun v => ∃ m : Nat, N.length ≤ m ∧ m ≤ 7 ∧ v = .string ⟨(x.take m).toArray⟩) (fun v => lenOf v)
      case atStart => exact ⟨7, p2, by omega, by rw [List.take_of_length_le (by omega)]⟩
      case round =>
        obtain ⟨m, hm1, hm2, rfl⟩ := hrel
        obtain ⟨q, hq⟩ : ∃ q, m = q + 1 := ⟨m - 1, by omega⟩
        obtain ⟨u, hu⟩ : ∃ u, x.take m = u := ⟨_, rfl⟩
        obtain ⟨y, hy⟩ : ∃ y, x.take q = y := ⟨_, rfl⟩
        have HU := Lib.hid hu
        have HY := Lib.hid hy
        have hul : u.length = m := by rw [← hu, List.length_take]; omega
        have hql : q < u.length := by omega
        obtain ⟨c, hc⟩ : ∃ c, u[q] = c := ⟨_, rfl⟩
        have hget := ba_at u q hql hc
        have hcx : x[q]'(by omega) = c := by rw [← hc]; simp only [← hu, List.getElem_take]
        have hcut := cut_at u 0 q q (by omega)
        have htk : (u.drop 0).take q = y := by rw [List.drop_zero, ← hu, List.take_take, ← hy]; congr 1; omega
        rw [htk] at hcut
        have hsz : (ByteArray.mk u.toArray).size = m := by simp [ByteArray.size]; omega
        have hql2 : (m : Int) - 1 = (q : Int) := by omega
        have hqi : (q : Int) ≤ (m : Int) := by omega
        have hqi2 : (q : Int) < (m : Int) := by omega
        have hqm : q < m := by omega
        have HLM : Hid (lenOf (.string ⟨u.toArray⟩) = m) := Lib.hid hsz
        have HLQ : Hid (lenOf (.string ⟨y.toArray⟩) = q) := Lib.hid (by show (ByteArray.mk y.toArray).size = q; rw [← hy]; simp [ByteArray.size]; omega)
        rw [hu]
        by_cases hL : m = N.length
        · have hnb : nb c = true := by
            have h1 : x[q]'(by omega) = N[q]'(by omega) := by simp only [HX.out]; rw [List.getElem_append_left]
            rw [← hcx, h1]
            exact List.all_eq_true.1 p3 _ (List.getElem_mem _)
          have e32 : ((c.toNat : Int) == 32) = false := by unfold nb at hnb; simp at hnb; simp; omega
          have hres : Hid (u = N) := Lib.hid (by rw [← HU.out, HX.out, hL, List.take_left])
          clear hcx htk hnb hL hq hu hy
          go_wp2_with fail
          go_ret
          exact ⟨by rw [HNI.out, hres.out]; rfl, rfl⟩
        · have h32 : c = 32 := by
            have h1 : x[q]'(by omega) = 32 := by
              simp only [HX.out]; rw [List.getElem_append_right (by omega)]; simp
            rw [← hcx, h1]
          have e32 : ((c.toNat : Int) == 32) = true := by rw [h32]; rfl
          clear hcx htk h32 hq hu hy
          go_wp2_with fail
          go_round
          case rel => exact ⟨q, by omega, by omega, by rw [HY.out]⟩
          case measure => rw [HLM.out, HLQ.out]; omega
    · have hn := name_out (op := op) (by omega)
      rw [hn]
      have d1 : decide (op < 1) = false := by simp; omega
      have d2 : decide (op > 17) = true := by simp; omega
      clear hn
      go_enter Tryd.func30, Tryd.ntmps30
      go_wp2_with fail
      go_ret
      exact ⟨rfl, rfl⟩
  · have hn := name_out (op := op) (by omega)
    rw [hn]
    have d1 : decide (op < 1) = true := by simp; omega
    clear hn
    go_enter Tryd.func30, Tryd.ntmps30
    go_wp2_with fail
    go_ret
    exact ⟨rfl, rfl⟩
end Go.Proofs.YtpodniljpinigaaDoor.C
