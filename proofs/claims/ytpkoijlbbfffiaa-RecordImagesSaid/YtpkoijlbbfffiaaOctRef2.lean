/- The contracts of the reference's GetUint, GetInt, GetText and Sum. -/
import Derived.Test.YtpkoijlbbfffiaaOctRef
import Derived.Test.YtpkoijlbbfffiaaOctGet2
import Derived.Test.YtpkoijlbbfffiaaSched
namespace Go.Proofs.Ytpkoijlbbfffiaa.O
open Go.RowKit

theorem val_drop (p : List UInt8) (j : Nat) (h : j < p.length) : valN (p.drop j) = (p[j]).toNat % 128 + 128 * valN (p.drop (j + 1)) := by
  rw [List.drop_eq_getElem_cons h]; rfl
theorem val_drop' {d : List UInt8} {t j : Nat} (ht : t < d.length) (h : j < t + 1) : valN ((d.take (t + 1)).drop j) = (d[j]).toNat % 128 + 128 * valN ((d.take (t + 1)).drop (j + 1)) := by
  rw [val_drop _ j (by simp; omega)]; simp
/-- What the reference's GetUint returns. -/
def resR (o : Option (Nat × Nat)) : Value := match o with
  | none => .tuple #[.int .u64 0, .int .i64 0]
  | some (n, k) => .tuple #[.int .u64 n, .int .i64 k]
theorem getU_none_10 {d : List UInt8} (hb : Big (d.take 10)) (hl : 10 ≤ d.length) : getU d = none := by
  unfold getU
  split
  · rfl
  · rename_i i hf
    obtain ⟨q, c, r, rfl, hq, hbq, hc⟩ := fst128_some hf
    have : 10 ≤ i := by
      rcases Nat.lt_or_ge i 10 with h | h
      · have hm : c ∈ (q ++ c :: r).take 10 := by
          rw [List.take_append, List.take_of_length_le (by omega), show 10 - q.length = (9 - q.length) + 1 by omega, List.take_succ_cons]
          simp
        have := hb c hm
        omega
      · exact h
    rw [if_pos (.inl this)]
theorem getU_none_big {d : List UInt8} (hb : Big d) : getU d = none := by unfold getU; rw [fst128_none hb]
theorem fst128_here {d : List UInt8} {t : Nat} (ht : t < d.length) (hb : Big (d.take t)) (hc : (d[t]).toNat < 128) : fst128 d = some t := by
  have e : d = d.take t ++ d[t] :: d.drop (t + 1) := by rw [List.getElem_cons_drop, List.take_append_drop]
  have := fst128_at (r := d.drop (t + 1)) hb hc
  rw [← e] at this
  rw [this]; simp; omega
/-- What the reference compares. -/
theorem getU_cmp {d : List UInt8} {t : Nat} (ht : t < d.length) (_ht9 : t ≤ 9) (hb : Big (d.take t)) (hc : (d[t]).toNat < 128) :
    getU d = if uintL (valN (d.take (t + 1)) % 18446744073709551616) = d.take (t + 1) then some (valN (d.take (t + 1)) % 18446744073709551616, t + 1) else none := by
  split
  · rename_i h
    rw [getU_iff]
    refine ⟨Nat.mod_lt _ (by omega), ?_, h.symm⟩
    rw [h]; simp; omega
  · rename_i h
    cases hg : getU d with
    | none => rfl
    | some p =>
      obtain ⟨n, k⟩ := p
      exfalso
      have hf := fst128_here ht hb hc
      have h1 := (getU_some hg).1
      have h2 := (getU_some hg).2.1
      unfold getU at hg
      rw [hf] at hg
      simp only at hg
      split at hg
      · cases hg
      · injection hg with hg
        injection hg with e1 e2
        subst e2
        apply h
        rw [e1, Nat.mod_eq_of_lt h1, h2]

theorem wrap_step (a c : Nat) : IntKind.u64.wrap (IntKind.u64.wrap ((a : Int) % 18446744073709551616 * 128) + (c : Int) % 128) = (((c % 128 + 128 * a) % 18446744073709551616 : Nat) : Int) := by
  simp only [IntKind.wrap, IntKind.signed, IntKind.bits]
  simp
  omega
theorem big_snoc {d : List UInt8} {t : Nat} (ht : t < d.length) (hb : Big (d.take t)) (hc : 128 ≤ (d[t]).toNat) : Big (d.take (t + 1)) := by
  intro x hx
  rw [List.take_succ_eq_append_getElem ht] at hx
  rcases List.mem_append.1 hx with hx | hx
  · exact hb x hx
  · simp at hx; subst hx; exact hc

set_option maxRecDepth 100000 in
set_option maxHeartbeats 2000000 in
theorem refGetUint_in (A : Option Addr) (n c y : Nat) (l : List UInt8) (w : World) (h : Rd w w.heap.size 1 A n (bv l)) (hy : y ≤ n) (hnc : n ≤ c) (hn : n ≤ 1000000000000000000) (hc : c ≤ 9223372036854775807) :
    Calls Try.prog 144 #[.slice A n c, .int .i64 y] w fun e w' => e = .returned (resR (getU (l.drop y))) ∧ Below w.heap.size w w' := by
  have hl : l.length = n := by have := h.1; simp at this; omega
  obtain ⟨d, hd⟩ : ∃ d, d = l.drop y := ⟨_, rfl⟩
  have hdl : d.length = n - y := by rw [hd]; simp; omega
  have hget : ∀ t (ht : t < d.length) (ht' : y + t < l.length), d[t] = l[y + t] := fun t ht _ => by simp [hd]
  have HGET := Lib.hid hget
  have HD := Lib.hid hd
  have hd1 : y + d.length ≤ n := by omega
  have hd2 : n ≤ y + d.length := by omega
  have hl1 : l.length ≤ n := by omega
  have hl2 : n ≤ l.length := by omega
  have hneg : decide ((y : Int) < 0) = false := by simp
  clear hl hd hdl hget
  go_enter Try.func144, Try.ntmps144
  go_wp2_with fail
  go_loop [4, 5, 6, 7, 8] (fun _ _ v _ _ => ∃ t : Nat, t ≤ 10 ∧ t ≤ d.length ∧ v = .int .i64 (t + 1) ∧ Hid (Big (d.take t))) (fun _ _ v _ _ => (12 - intOf v).toNat)
  case atStart => exact ⟨0, by omega, by omega, rfl, Lib.hid (fun _ hx => by simp at hx)⟩
  case round =>
    obtain ⟨t, ht10, htd, rfl, HB⟩ := hrel
    rcases (show t = 10 ∨ (t < 10 ∧ t = d.length) ∨ (t < 10 ∧ t < d.length) by omega) with rfl | ⟨h10, h11⟩ | ⟨h10, h11⟩
    · have HN : Hid (getU d = none) := Lib.hid (getU_none_10 HB.out (by omega))
      go_wp2_with fail
      go_ret2
      exact ⟨by rw [← HD.out, HN.out]; rfl, Below.refl _ _⟩
    · have HN : Hid (getU d = none) := Lib.hid (getU_none_big (by have := HB.out; rwa [List.take_of_length_le (by omega)] at this))
      have hgt : ¬ ((y : Int) + ((t : Int) + 1) ≤ n) := by omega
      clear h11
      go_wp2_with fail
      go_ret2
      exact ⟨by rw [← HD.out, HN.out]; rfl, Below.refl _ _⟩
    · obtain ⟨b, off, rfl, hbl⟩ := h.some_ (k := y + t) (by omega)
      have hct := h.byte (k := y + t) (by omega)
      rw [← HGET.out t h11 (by omega)] at hct
      have hxt : ((y : Int) + ((t : Int) + 1) - 1).toNat = y + t := by omega
      by_cases h128 : 128 ≤ (d[t]).toNat
      · go_wp2_with fail
        go_round
        case rel => exact ⟨_, _, _, ⟨t + 1, by omega, by omega, by go_num, Lib.hid (big_snoc h11 HB.out h128)⟩, rfl, rfl, rfl⟩
        case measure => simp [intOf]; omega
      · have HC : Hid (getU d = _) := Lib.hid (getU_cmp h11 (by omega) HB.out (by omega))
        go_wp2_with fail
        go_loop [7, 8] (fun v i => ∃ j : Nat, j ≤ t + 1 ∧ i = .int .i64 ((j : Int) - 1) ∧ v = .int .u64 ((valN ((d.take (t + 1)).drop j) % 18446744073709551616 : Nat) : Int)) (fun _ i => (intOf i + 1).toNat)
        case atStart => exact ⟨t + 1, by omega, by simp, by simp [valN]⟩
        case round =>
          obtain ⟨j, hj, rfl, rfl⟩ := hrel
          rcases j with _ | j
          · rw [List.drop_zero]
            obtain ⟨N, hN⟩ : ∃ N, N = valN (d.take (t + 1)) % 18446744073709551616 := ⟨_, rfl⟩
            have hN2 : N < 18446744073709551616 := by rw [hN]; exact Nat.mod_lt _ (by omega)
            have HC2 : Hid (getU d = if uintL N = d.take (t + 1) then some (N, t + 1) else none) := Lib.hid (by rw [HC.out, hN])
            rw [← hN]
            clear HC hN
            have hmid := h.mid' (k := y) (u := t + 1) (by omega)
            rw [← HD.out] at hmid
            have hyc : ¬ c = y := by omega
            have hb1 : (0 : Int) ≤ (y : Int) := by omega
            have hb2 : (y : Int) ≤ (y : Int) + ((t : Int) + 1) := by omega
            have hb3 : (y : Int) + ((t : Int) + 1) ≤ (c : Int) := by omega
            go_wp2_with fail
            -- REGION
            by_cases he : uintL N = d.take (t + 1)
            · skip
              refine wp_region_sched [(0, true), (3, true), (4, true), (5, true), (6, true), (7, true), (8, true), (9, true), (1, false), (2, true), (10, true)] (by kernel_rfl) (by kernel_rfl) (fun _ _ d _ _ h => by cases d <;> exact h) ?_
              refine sread (v := ?vp0) rfl rfl ?hp0 ?rp0
              case hp0 => (intro W hW; first | (go_simp; done) | (go_simp; with_reducible rfl))
              simp only [Act.put, List.setIfInBounds_toArray, List.set_cons_zero, List.set_cons_succ]
              refine sread (v := ?vp3) rfl rfl ?hp3 ?rp3
              case hp3 => (intro W hW; first | (go_simp; done) | (go_simp; with_reducible rfl))
              simp only [Act.put, List.setIfInBounds_toArray, List.set_cons_zero, List.set_cons_succ]
              refine sread (v := ?vp4) rfl rfl ?hp4 ?rp4
              case hp4 => (intro W hW; first | (go_simp; done) | (go_simp; with_reducible rfl))
              simp only [Act.put, List.setIfInBounds_toArray, List.set_cons_zero, List.set_cons_succ]
              refine sread (v := ?vp5) rfl rfl ?hp5 ?rp5
              case hp5 => (intro W hW; first | (go_simp; done) | (go_simp; with_reducible rfl))
              simp only [Act.put, List.setIfInBounds_toArray, List.set_cons_zero, List.set_cons_succ]
              refine sread (v := ?vp6) rfl rfl ?hp6 ?rp6
              case hp6 => (intro W hW; first | (go_simp; done) | (go_simp; with_reducible rfl))
              simp only [Act.put, List.setIfInBounds_toArray, List.set_cons_zero, List.set_cons_succ]
              refine sread (v := ?vp7) rfl rfl ?hp7 ?rp7
              case hp7 => (intro W hW; have hwr : IntKind.i64.wrap ((y : Int) + ((t : Int) + 1)) = (y : Int) + ((t : Int) + 1) := IntWalk.i64_in _ (by omega); go_simp; with_reducible rfl)
              simp only [Act.put, List.setIfInBounds_toArray, List.set_cons_zero, List.set_cons_succ]
              refine sread (v := .slice (some ⟨b, off + y, none⟩) (t + 1) (c - y)) rfl rfl ?hp8 ?rp8
              case hp8 => (intro W hW; have e1 : ((y : Int) + ((t : Int) + 1)).toNat = y + (t + 1) := (by omega); have e2 : y + (t + 1) - y = t + 1 := (by omega); have e3 : y ≤ y + (t + 1) := (by omega); have e4 : (0 : Int) ≤ (y : Int) + ((t : Int) + 1) := (by omega); go_simp)
              simp only [Act.put, List.setIfInBounds_toArray, List.set_cons_zero, List.set_cons_succ]
              refine sread (v := ?vp9) rfl rfl ?hp9 ?rp9
              case hp9 => (intro W hW; have q := strq (c := c - y) (hmid.drew.below (hW.out.mono (Nat.le_refl _))); go_simp; with_reducible rfl)
              simp only [Act.put, List.setIfInBounds_toArray, List.set_cons_zero, List.set_cons_succ]
              refine scall rfl rfl (fun K hK => ?_)
              go_simp
              refine (refUint N _ hN2).mono ?_; rintro e w1 ⟨A1, n1, c1, rfl, o1, b1⟩
              go_wp2_with fail
              refine hK.out _ _ ?gp1 ?kp1
              case gp1 => exact b1
              clear hK K
              try simp only [Act.put, List.setIfInBounds_toArray, List.set_cons_zero, List.set_cons_succ]
              have r1 := Rd.of_own o1; clear o1
              refine sread (v := ?vp2) rfl rfl ?hp2 ?rp2
              case hp2 => (intro W hW; have q := strq (c := c1) (r1.next hW.out); go_simp; with_reducible rfl)
              simp only [Act.put, List.setIfInBounds_toArray, List.set_cons_zero, List.set_cons_succ]
              refine sread (v := .bool true) rfl rfl ?hp10 ?rp10
              case hp10 => (intro W hW; go_simp)
              simp only [Act.put, List.setIfInBounds_toArray, List.set_cons_zero, List.set_cons_succ]
              refine sdone ?_
              have HE := Lib.hid he
              clear he
              go_wp2_with fail
              go_ret2
              exact ⟨by rw [← HD.out, HC2.out, if_pos HE.out]; simp [resR], (Below.refl _ _).drew.trans (b1.mono (Nat.le_refl _))⟩
            · skip
              refine wp_region_sched [(0, true), (3, true), (4, true), (5, true), (6, true), (7, true), (8, true), (9, true), (1, false), (2, true), (10, true)] (by kernel_rfl) (by kernel_rfl) (fun _ _ d _ _ h => by cases d <;> exact h) ?_
              refine sread (v := ?vq0) rfl rfl ?hq0 ?rq0
              case hq0 => (intro W hW; first | (go_simp; done) | (go_simp; with_reducible rfl))
              simp only [Act.put, List.setIfInBounds_toArray, List.set_cons_zero, List.set_cons_succ]
              refine sread (v := ?vq3) rfl rfl ?hq3 ?rq3
              case hq3 => (intro W hW; first | (go_simp; done) | (go_simp; with_reducible rfl))
              simp only [Act.put, List.setIfInBounds_toArray, List.set_cons_zero, List.set_cons_succ]
              refine sread (v := ?vq4) rfl rfl ?hq4 ?rq4
              case hq4 => (intro W hW; first | (go_simp; done) | (go_simp; with_reducible rfl))
              simp only [Act.put, List.setIfInBounds_toArray, List.set_cons_zero, List.set_cons_succ]
              refine sread (v := ?vq5) rfl rfl ?hq5 ?rq5
              case hq5 => (intro W hW; first | (go_simp; done) | (go_simp; with_reducible rfl))
              simp only [Act.put, List.setIfInBounds_toArray, List.set_cons_zero, List.set_cons_succ]
              refine sread (v := ?vq6) rfl rfl ?hq6 ?rq6
              case hq6 => (intro W hW; first | (go_simp; done) | (go_simp; with_reducible rfl))
              simp only [Act.put, List.setIfInBounds_toArray, List.set_cons_zero, List.set_cons_succ]
              refine sread (v := ?vq7) rfl rfl ?hq7 ?rq7
              case hq7 => (intro W hW; have hwr : IntKind.i64.wrap ((y : Int) + ((t : Int) + 1)) = (y : Int) + ((t : Int) + 1) := IntWalk.i64_in _ (by omega); go_simp; with_reducible rfl)
              simp only [Act.put, List.setIfInBounds_toArray, List.set_cons_zero, List.set_cons_succ]
              refine sread (v := .slice (some ⟨b, off + y, none⟩) (t + 1) (c - y)) rfl rfl ?hq8 ?rq8
              case hq8 => (intro W hW; have e1 : ((y : Int) + ((t : Int) + 1)).toNat = y + (t + 1) := (by omega); have e2 : y + (t + 1) - y = t + 1 := (by omega); have e3 : y ≤ y + (t + 1) := (by omega); have e4 : (0 : Int) ≤ (y : Int) + ((t : Int) + 1) := (by omega); go_simp)
              simp only [Act.put, List.setIfInBounds_toArray, List.set_cons_zero, List.set_cons_succ]
              refine sread (v := ?vq9) rfl rfl ?hq9 ?rq9
              case hq9 => (intro W hW; have q := strq (c := c - y) (hmid.drew.below (hW.out.mono (Nat.le_refl _))); go_simp; with_reducible rfl)
              simp only [Act.put, List.setIfInBounds_toArray, List.set_cons_zero, List.set_cons_succ]
              refine scall rfl rfl (fun K hK => ?_)
              go_simp
              refine (refUint N _ hN2).mono ?_; rintro e w1 ⟨A1, n1, c1, rfl, o1, b1⟩
              go_wp2_with fail
              refine hK.out _ _ ?gq1 ?kq1
              case gq1 => exact b1
              clear hK K
              try simp only [Act.put, List.setIfInBounds_toArray, List.set_cons_zero, List.set_cons_succ]
              have r1 := Rd.of_own o1; clear o1
              refine sread (v := ?vq2) rfl rfl ?hq2 ?rq2
              case hq2 => (intro W hW; have q := strq (c := c1) (r1.next hW.out); go_simp; with_reducible rfl)
              simp only [Act.put, List.setIfInBounds_toArray, List.set_cons_zero, List.set_cons_succ]
              refine sread (v := .bool false) rfl rfl ?hq10 ?rq10
              case hq10 => (intro W hW; go_simp)
              simp only [Act.put, List.setIfInBounds_toArray, List.set_cons_zero, List.set_cons_succ]
              refine sdone ?_
              have HE := Lib.hid he
              clear he
              go_wp2_with fail
              go_ret2
              exact ⟨by rw [← HD.out, HC2.out, if_neg HE.out]; rfl, (Below.refl _ _).drew.trans (b1.mono (Nat.le_refl _))⟩
            -- ENDREGION
          · have hcj := h.byte (k := y + j) (by omega)
            rw [← HGET.out j (by omega) (by omega)] at hcj
            go_wp2_with fail
            go_round
            case rel => exact ⟨j, by omega, by go_num, by rw [wrap_step, ← val_drop' h11 (by omega)]⟩
            case measure => simp [intOf]

set_option maxRecDepth 100000 in
theorem refGetUint_any (A : Option Addr) (n c : Nat) (x : Int) (l : List UInt8) (w : World) (h : Rd w w.heap.size 1 A n (bv l)) (hnc : n ≤ c) (hn : n ≤ 1000000000000000000) (hc : c ≤ 9223372036854775807) :
    Calls Try.prog 144 #[.slice A n c, .int .i64 x] w fun e w' => e = .returned (resR (getUAt l x)) ∧ Below w.heap.size w w' := by
  have hl : l.length = n := by have := h.1; simp at this; omega
  by_cases hx : 0 ≤ x ∧ x ≤ n
  · obtain ⟨k, rfl⟩ := Int.eq_ofNat_of_zero_le hx.1
    have e : getUAt l (k : Int) = getU (l.drop k) := by rw [getUAt, if_pos (by omega), Int.toNat_natCast]
    rw [e]
    exact refGetUint_in A n c k l w h (by omega) hnc hn hc
  · have e : getUAt l x = none := by rw [getUAt, if_neg (by omega)]
    rw [e]
    clear e
    rcases (show x < 0 ∨ (0 ≤ x ∧ (n : Int) < x) by omega) with h1 | ⟨h1, h2⟩
    all_goals
      go_enter Try.func144, Try.ntmps144
      go_wp2_with fail
      go_ret2
      exact ⟨rfl, Below.refl _ _⟩

def resRI (o : Option (Nat × Nat)) : Value := match o with
  | none => .tuple #[.int .i64 0, .int .i64 0]
  | some (n, k) => .tuple #[.int .i64 (zag n), .int .i64 k]
set_option maxRecDepth 100000 in
set_option maxHeartbeats 1000000 in
theorem refGetInt_any (A : Option Addr) (n c : Nat) (x : Int) (l : List UInt8) (w : World) (h : Rd w w.heap.size 1 A n (bv l)) (hnc : n ≤ c) (hn : n ≤ 1000000000000000000) (hc : c ≤ 9223372036854775807) :
    Calls Try.prog 103 #[.slice A n c, .int .i64 x] w fun e w' => e = .returned (resRI (getUAt l x)) ∧ Below w.heap.size w w' := by
  have hg := refGetUint_any A n c x l w h hnc hn hc
  cases hu : getUAt l x with
  | none =>
    rw [hu] at hg
    have HG := Lib.hid hg; clear hg hu
    go_enter Try.func103, Try.ntmps103
    go_wp2_with fail
    refine HG.out.mono ?_; rintro e w1 ⟨rfl, hb⟩
    clear HG
    simp only [resR]
    go_wp2_with fail
    go_ret2
    exact ⟨rfl, hb⟩
  | some p =>
    obtain ⟨u, k⟩ := p
    have hb := getUAt_lt hu
    rw [hu] at hg
    have HG := Lib.hid hg; clear hg hu
    rcases (show u % 2 = 0 ∨ u % 2 = 1 by omega) with h2 | h2
    · have e2 : (((u : Int) % 2) == 1) = false := by simp only [beq_eq_false_iff_ne, ne_eq]; omega
      have HZ : Hid (zag u = (u : Int) / 2) := Lib.hid (by rw [zag, if_neg (by omega)]; omega)
      clear h2
      go_enter Try.func103, Try.ntmps103
      go_wp2_with fail
      refine HG.out.mono ?_; rintro e w1 ⟨rfl, hb⟩
      clear HG
      simp only [resR]
      go_wp2_with fail
      go_ret2
      exact ⟨by simp only [resRI, HZ.out]; rfl, hb⟩
    · have e2 : (((u : Int) % 2) == 1) = true := by simp only [beq_iff_eq]; omega
      have HZ : Hid (zag u = -((u : Int) / 2) - 1) := Lib.hid (by rw [zag, if_pos h2]; omega)
      clear h2
      go_enter Try.func103, Try.ntmps103
      go_wp2_with fail
      refine HG.out.mono ?_; rintro e w1 ⟨rfl, hb⟩
      clear HG
      simp only [resR]
      go_wp2_with fail
      go_ret2
      exact ⟨by simp only [resRI, HZ.out]; rfl, hb⟩
def resRT (o : Option (List UInt8 × Nat)) : Value := match o with
  | none => .tuple #[.string ⟨#[]⟩, .int .i64 0]
  | some (s, k) => .tuple #[.string ⟨s.toArray⟩, .int .i64 k]
set_option maxRecDepth 100000 in
set_option maxHeartbeats 2000000 in
theorem refGetText_any (A : Option Addr) (n c : Nat) (x most : Int) (l : List UInt8) (w : World) (h : Rd w w.heap.size 1 A n (bv l)) (hnc : n ≤ c) (hn : n ≤ 1000000000000000000) (hc : c ≤ 9223372036854775807)
    (hm1 : -9223372036854775808 ≤ most) (hm2 : most ≤ 9223372036854775807) :
    Calls Try.prog 104 #[.slice A n c, .int .i64 x, .int .i64 most] w fun e w' => e = .returned (resRT (getTAt l x most)) ∧ Below w.heap.size w w' := by
  have hl : l.length = n := by have := h.1; simp at this; omega
  have hg := refGetUint_any A n c x l w h hnc hn hc
  cases hu : getUAt l x with
  | none =>
    rw [hu] at hg
    have HT : Hid (getTAt l x most = none) := Lib.hid (by rw [getTAt, hu])
    have HG := Lib.hid hg; clear hg hu hl
    go_enter Try.func104, Try.ntmps104
    go_wp2_with fail
    refine HG.out.mono ?_; rintro e w1 ⟨rfl, hb⟩
    clear HG
    simp only [resR]
    go_wp2_with fail
    go_ret2
    exact ⟨by rw [HT.out]; rfl, hb⟩
  | some p =>
    obtain ⟨u, k⟩ := p
    obtain ⟨hb1, hb2, hb3, hb4, hb5⟩ := getUAt_lt hu
    have hTe : getTAt l x most = if most < 0 ∨ most < u ∨ (l.length : Int) - x - k < u then none else some ((l.drop (x.toNat + k)).take u, k + u) := by rw [getTAt, hu]
    rw [hu] at hg
    have HG := Lib.hid hg; clear hg hu
    rw [hl] at hb3 hTe
    have hk0 : ((k : Int) == 0) = false := by simp only [beq_eq_false_iff_ne, ne_eq]; omega
    by_cases hno : most < 0 ∨ most < u ∨ (n : Int) - x - k < u
    · have HT : Hid (getTAt l x most = none) := Lib.hid (by rw [hTe, if_pos hno])
      clear hTe hl
      rcases (show most < 0 ∨ (0 ≤ most ∧ most < u) ∨ (0 ≤ most ∧ (u : Int) ≤ most ∧ (n : Int) - x - k < u) by omega) with h1 | ⟨h1, h2⟩ | ⟨h1, h2, h3⟩
      all_goals
        clear hno
        go_enter Try.func104, Try.ntmps104
        go_wp2_with fail
        refine HG.out.mono ?_; rintro e w1 ⟨rfl, hb⟩
        clear HG
        simp only [resR]
        go_wp2_with fail
        go_ret2
        exact ⟨by rw [HT.out]; rfl, hb⟩
    · have HT : Hid (getTAt l x most = some ((l.drop (x.toNat + k)).take u, k + u)) := Lib.hid (by rw [hTe, if_neg hno])
      obtain ⟨y, rfl⟩ := Int.eq_ofNat_of_zero_le hb2
      rw [Int.toNat_natCast] at HT
      have h1 : u ≤ n := by omega
      have h2 : (u : Int) ≤ (n : Int) - y - k := by omega
      have h3 : 0 ≤ most := by omega
      have h4 : (u : Int) ≤ most := by omega
      clear hTe hl hno
      by_cases hck : c = y + k
      · have hu0 : u = 0 := by omega
        subst hu0
        subst hck
        go_enter Try.func104, Try.ntmps104
        go_wp2_with fail
        refine HG.out.mono ?_; rintro e w1 ⟨rfl, hb⟩
        clear HG
        have q : ∀ A' c', (convert 28 9 (.slice A' 0 c')).run Try.prog w1 = .ok (.string ⟨#[]⟩) w1 := fun A' c' => strq (B := 0) (l := []) Rd.nil_
        simp only [resR]
        go_wp2_with fail
        go_ret2
        exact ⟨by rw [HT.out]; simp [resRT], hb⟩
      · go_enter Try.func104, Try.ntmps104
        go_wp2_with fail
        refine HG.out.mono ?_; rintro e w1 ⟨rfl, hb⟩
        clear HG
        have q := strq (c := c - (y + k)) ((h.next hb).mid (k := y + k) (u := u) (by omega))
        simp only [resR]
        go_wp2_with fail
        go_ret2
        exact ⟨by rw [HT.out]; simp [resRT], hb⟩

end Go.Proofs.Ytpkoijlbbfffiaa.O
