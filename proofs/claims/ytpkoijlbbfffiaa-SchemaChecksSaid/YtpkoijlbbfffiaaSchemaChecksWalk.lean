/- SchemaChecks' walk: for every row of tables and every text it returns true. -/
import Derived.Test.YtpkoijlbbfffiaaSchChkOpen
import Derived.Test.YtpkoijlbbfffiaaSchChkRef
import Derived.Test.YtpkoijlbbfffiaaSchPrint
import Derived.Deep.DeepCutAuto
namespace Go.Proofs.Ytpkoijlbbfffiaa.schemaChecks
open Go.RowKit O V R S

theorem cut_ba (l : List UInt8) (k m : Nat) (h : min l.length k = m) : (ByteArray.mk l.toArray).extract 0 m = ⟨(l.take k).toArray⟩ := by
  apply ByteArray.ext
  simp [List.extract_eq_take_drop]
  omega
set_option maxRecDepth 100000 in
set_option maxHeartbeats 4000000 in
theorem walk (v0 : Value) (l0 : List Tab) (s : ByteArray) (w : World) (h0 : IsTabs w v0 l0) (hs : s.size ≤ maxLen) :
    Calls Try.prog 10 #[v0, .string s] w fun e w' => e = .returned (.bool true) ∧ Below w.heap.size w w' := by
  obtain ⟨A, n0, c, rfl, h⟩ := h0
  obtain ⟨s0, rfl⟩ : ∃ l0 : List UInt8, s = ⟨l0.toArray⟩ := ⟨s.data.toList, by cases s; simp⟩
  have hsz : (ByteArray.mk s0.toArray).size = s0.length := by simp [ByteArray.size]
  rw [hsz] at hs
  unfold maxLen at hs
  obtain ⟨m, hm⟩ : ∃ m : Nat, min s0.length 40 = m := ⟨_, rfl⟩
  have ex : min (s0.length : Int) 40 = (m : Int) := by omega
  have hm2 : (m : Int) ≤ (s0.length : Int) := by omega
  have hcut := cut_ba s0 40 m hm
  have hll : (s0.take 40).length ≤ 40 := by simp; omega
  generalize s0.take 40 = nm at hcut hll
  obtain ⟨n, hn⟩ : ∃ n : Nat, min n0 12 = n := ⟨_, rfl⟩
  have ex2 : min (n0 : Int) 12 = (n : Int) := by omega
  have hcap := h.cap
  have hnc : (n : Int) ≤ (c : Int) := by omega
  have hnc' : n ≤ c := by omega
  have HV := Lib.hid (h.take n (by omega))
  have hn12 : n ≤ 12 := by omega
  generalize l0.take n = l at HV
  have hl := HV.out.len
  have HL := Lib.hid hl
  clear hm hn h hl
  go_enter Try.func10, Try.ntmps10
  go_wp2_with fail
  refine wp_region_sched [(0, true), (1, true), (2, true), (3, true), (4, true), (5, true), (6, true), (7, true), (8, true), (9, true), (10, true), (11, true)] (by kernel_rfl) (by kernel_rfl) (fun _ _ d _ _ h => by cases d <;> exact h) ?_
  repeat (first | (refine sreadx rfl rfl ?_; apply Exists.intro; apply And.intro; (· (intro W hW; first | (go_simp; done) | (go_simp; with_reducible rfl) | (go_simp; rw [if_neg (by omega)]; done) | (go_simp; rw [if_neg (by omega)]; with_reducible rfl))); simp only [Act.put, List.setIfInBounds_toArray, List.set_cons_zero, List.set_cons_succ]) | (refine sskip rfl rfl ?_; simp only [Act.put, List.setIfInBounds_toArray, List.set_cons_zero, List.set_cons_succ]))
  refine sdone ?_
  go_wp2_with fail
  go_loopw [6, 25] (fun _ i wr => ∃ k : Nat, k ≤ n ∧ i = .int .i64 k ∧ Hid (∀ t ∈ l.take k, lightT t.name t.cols = true) ∧ Below w.heap.size w wr) (fun _ i _ => n - (intOf i).toNat)
  case atStart => exact ⟨0, by omega, rfl, Lib.hid (by simp), (Below.refl _ _).drew⟩
  case round =>
    obtain ⟨k, hk, rfl, H, hb⟩ := hrel
    have hbs := hb.size
    by_cases hlt : k < n
    · have hlt' : k < l.length := by rw [HL.out]; exact hlt
      obtain ⟨b, off, t, rfl, hbl, hv, ho, hc⟩ := HV.out.at_ hlt'
      obtain ⟨c0, c1, c2⟩ := hc w ((Below.refl _ _))
      obtain ⟨c0, c1, c2⟩ := hc wr hb
      have hst : Hid (lightT l[k].name l[k].cols = true → ∀ t ∈ l.take (k + 1), lightT t.name t.cols = true) := Lib.hid (by
        intro hx t ht
        rw [List.take_succ_eq_append_getElem hlt'] at ht
        rcases List.mem_append.1 ht with ht | ht
        · exact H.out t ht
        · simp at ht; subst ht; exact hx)
      have HVr := Lib.hid hv
      clear hc hv
      generalize l[k] = y at *
      have hyl := ho.1
      go_wp2_with fail
      refine (lightTab_any y.name y.rows t.A t.n t.c y.cols _ (HVr.out.next (hb.alloc hbs _)) hyl).mono ?_; rintro e w2 ⟨rfl, b2⟩
      have B2 : Below w.heap.size w w2 := (hb.alloc hbs _).trans (b2.mono (by simp; omega))
      cases hq : lightT y.name y.cols
      · go_wp2_with fail
        refine (S.lives_any _).mono ?_; rintro e w3 ⟨rfl, b3⟩
        go_wp2_with fail
        go_ret
        exact ⟨rfl, bthen B2 b3⟩
      · have hst' := Lib.hid (hst.out hq)
        go_wp2_with fail
        go_roundw
        case rel => exact ⟨k + 1, by omega, by go_num, hst', B2⟩
        case measure => simp [intOf]; omega
    · obtain rfl : k = n := by omega
      have HLT : Hid (∀ t ∈ l, lightT t.name t.cols = true) := Lib.hid (by have := H.out; rwa [← HL.out, List.take_length] at this)
      go_wp2_with fail
      refine (check_any A k c l _ (HV.out.next hb) HLT.out).mono ?_; rintro e w1 ⟨rfl, b1⟩
      simp only [resE]
      have B1 := Lib.hid (bthen hb b1)
      clear b1
      go_wp2_with fail
      refine (rcheck_any A k c l _ (HV.out.next B1.out) HLT.out).mono ?_; rintro e w2 ⟨rfl, b2⟩
      simp only [resE]
      have B2 := Lib.hid (bthen B1.out b2)
      clear b2 B1
      go_wp2_with fail
      refine (find_any A k c l nm _ (HV.out.next B2.out)).mono ?_; rintro e w3 ⟨rfl, b3⟩
      have B3 := Lib.hid (bthen B2.out b3)
      clear b3 B2
      go_wp2_with fail
      refine (isName_any nm _ (by omega)).mono ?_; rintro e w4 ⟨rfl, rfl⟩
      go_wp2_with fail
      refine (risName_any nm _ (by omega)).mono ?_; rintro e w5 ⟨rfl, b5⟩
      have B5 := Lib.hid (bthen B3.out b5)
      clear b5 B3
      go_wp2_with fail
      refine (rfind_any A k c l nm _ (HV.out.next B5.out)).mono ?_; rintro e w6 ⟨rfl, b6⟩
      have B6 := Lib.hid (bthen B5.out b6)
      clear b6 B5
      go_wp2_with fail
      refine (rfind_any A k c l nm _ (HV.out.next B6.out)).mono ?_; rintro e w7 ⟨rfl, b7⟩
      have B7 := Lib.hid (bthen B6.out b7)
      clear b7 B6
      go_wp2_with fail
      refine (S.lives_any _).mono ?_; rintro e w8 ⟨rfl, b8⟩
      go_wp2_with fail
      go_ret
      exact ⟨rfl, bthen B7.out b8⟩
end Go.Proofs.Ytpkoijlbbfffiaa.schemaChecks
