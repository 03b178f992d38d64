/- The contracts of the reference's For, has, Same and Rising (layer 22). -/
import Derived.Test.YtpdfhbgemmpleaaWtRising
import Derived.Test.YtpdfhbgemmpleaaWtRefPlain
import Derived.ArgAppend
namespace Go.Proofs.Ytpdfhbgemmpleaa.T
open Go.RowKit

/-- The reference's two rows. -/
structure PR (w : World) (A : Option Addr) (n c : Nat) (A' : Option Addr) (n' c' : Nat) (L : Gr) : Prop where
  a : NRow w A n c (L.map (·.1))
  b : FRow w A' n' c' (L.map (·.2))
theorem PR.next {w W : World} {A A' : Option Addr} {n c n' c' : Nat} {L : Gr} (h : PR w A n c A' n' c' L) (b : Below w.heap.size w W) : PR W A n c A' n' c' L := ⟨h.a.next b, h.b.next b⟩
theorem PR.len {w : World} {A A' : Option Addr} {n c n' c' : Nat} {L : Gr} (h : PR w A n c A' n' c' L) : L.length = n ∧ L.length = n' := by
  have h1 := h.a.len
  have h2 := h.b.len
  simp at h1 h2
  exact ⟨h1, h2⟩
set_option maxHeartbeats 1000000 in
set_option maxRecDepth 100000 in
theorem for_any (A A' : Option Addr) (n c n' c' : Nat) (L : Gr) (who : Int) (w : World) (h : PR w A n c A' n' c' L) (hn : n ≤ 1000) :
    Calls Try.prog 25 #[.slice A n c, .slice A' n' c', .int .i64 who] w fun e w' => (∃ A1 n1 c1, e = .returned (.slice A1 n1 c1) ∧ NRow w A1 n1 c1 (forE L who)) ∧ w' = w := by
  obtain ⟨hl, hl'⟩ := h.len
  have HP := Lib.hid h
  have HL := Lib.hid hl
  have HL' := Lib.hid hl'
  clear h hl hl'
  go_enter Try.func25, Try.ntmps25
  go_wp2_with fail
  go_loop [6, 11] (fun _ iv => ∃ j : Nat, j ≤ n ∧ iv = .int .i64 (j : Int) ∧ Hid (∀ p ∈ L.take j, p.1 ≠ who)) (fun _ iv => n - (intOf iv).toNat)
  case atStart => exact ⟨0, by omega, rfl, Lib.hid (by simp)⟩
  case round =>
    obtain ⟨j, hj, rfl, HN⟩ := hrel
    by_cases hlt : j < n
    · have hji : (j : Int) < (n : Int) := by omega
      have hjl : j < L.length := by rw [HL.out]; exact hlt
      obtain ⟨b1, off, rfl, hbl, hc⟩ := HP.out.a.at (j := j) (by simpa using hjl)
      have hcell := hc w (Below.refl _ _)
      obtain ⟨b2, off2, A1, n1, c1, rfl, hbl2, hr1, hc2⟩ := HP.out.b.at (k := j) (by simpa using hjl)
      have hcell2 := hc2 w (Below.refl _ _)
      have hjn : j < n' := by rw [← HL'.out, HL.out]; exact hlt
      have hjni : (j : Int) < (n' : Int) := by omega
      have e1 : (L.map (·.1))[j]'(by simpa using hjl) = L[j].1 := by simp
      have e2 : (L.map (·.2))[j]'(by simpa using hjl) = L[j].2 := by simp
      rw [e1] at hcell
      rw [e2] at hr1
      have HAT := Lib.hid (forE_at (x := who) hjl HN.out)
      have HTK : Hid (L.take (j + 1) = L.take j ++ [L[j]]) := Lib.hid (List.take_succ_eq_append_getElem hjl)
      have HR1 := Lib.hid hr1
      clear hc hc2 hr1 e1 e2
      generalize L[j] = p at *
      by_cases he : p.1 = who
      · have d1 : (p.1 == who) = true := by simpa using he
        have HF := Lib.hid (HAT.out he)
        clear he
        go_wp2_with fail
        go_ret
        exact ⟨⟨A1, n1, c1, rfl, by rw [HF.out]; exact HR1.out⟩, rfl⟩
      · have d1 : (p.1 == who) = false := by simpa using he
        have HE := Lib.hid he
        clear he
        go_wp2_with fail
        go_round
        case rel => exact ⟨j + 1, by omega, by go_num, Lib.hid (fun q hq => by
          rw [HTK.out] at hq
          rcases List.mem_append.1 hq with h | h
          · exact HN.out q h
          · rw [List.mem_singleton] at h; rw [h]; exact HE.out)⟩
        case measure => simp [intOf]; omega
    · obtain rfl : j = n := by omega
      have HN2 := Lib.hid (forE_mem (L := L) (x := who) (fun p hp => HN.out p (by rw [List.take_of_length_le (by rw [HL.out]; exact Nat.le_refl _)]; exact hp)))
      go_wp2_with fail
      go_ret
      exact ⟨⟨none, 0, 0, rfl, by rw [HN2.out]; exact NRow.nil _ _⟩, rfl⟩
set_option maxHeartbeats 1000000 in
set_option maxRecDepth 100000 in
theorem has_any (A : Option Addr) (n c : Nat) (l : List Int) (x : Int) (w : World) (h : NRow w A n c l) (hn : n ≤ 1000) :
    Calls Try.prog 23 #[.slice A n c, .int .i64 x] w fun e w' => e = .returned (.bool (decide (x ∈ l))) ∧ w' = w := by
  have hl := h.len
  have HP := Lib.hid h
  have HL := Lib.hid hl
  clear h hl
  go_enter Try.func23, Try.ntmps23
  go_wp2_with fail
  go_loop [4, 9] (fun _ iv => ∃ j : Nat, j ≤ n ∧ iv = .int .i64 (j : Int) ∧ Hid (x ∉ l.take j)) (fun _ iv => n - (intOf iv).toNat)
  case atStart => exact ⟨0, by omega, rfl, Lib.hid (by simp)⟩
  case round =>
    obtain ⟨j, hj, rfl, HN⟩ := hrel
    by_cases hlt : j < n
    · have hji : (j : Int) < (n : Int) := by omega
      have hjl : j < l.length := by rw [HL.out]; exact hlt
      obtain ⟨b1, off, rfl, hbl, hc⟩ := HP.out.at (j := j) hjl
      have hcell := hc w (Below.refl _ _)
      have HTK : Hid (l.take (j + 1) = l.take j ++ [l[j]]) := Lib.hid (List.take_succ_eq_append_getElem hjl)
      have HME := Lib.hid (List.getElem_mem hjl)
      clear hc
      generalize l[j] = y at *
      by_cases he : y = x
      · have d1 : (y == x) = true := by simpa using he
        have HF : Hid (x ∈ l) := Lib.hid (he ▸ HME.out)
        clear he
        go_wp2_with fail
        go_ret
        exact ⟨by rw [decide_eq_true HF.out]; rfl, rfl⟩
      · have d1 : (y == x) = false := by simpa using he
        have HE := Lib.hid he
        clear he
        go_wp2_with fail
        go_round
        case rel => exact ⟨j + 1, by omega, by go_num, Lib.hid (by
          rw [HTK.out, List.mem_append, not_or]
          exact ⟨HN.out, fun h => by rw [List.mem_singleton] at h; exact HE.out h.symm⟩)⟩
        case measure => simp [intOf]; omega
    · obtain rfl : j = n := by omega
      have hx := HN.out
      rw [List.take_of_length_le (by rw [HL.out]; exact Nat.le_refl _)] at hx
      have HX := Lib.hid hx
      clear hx HN
      go_wp2_with fail
      go_ret
      exact ⟨by rw [decide_eq_false HX.out]; rfl, rfl⟩
theorem take_same {a b : List Int} {k : Nat} (h1 : k < a.length) (h2 : k < b.length) (h : a.take k = b.take k) (he : a[k] = b[k]) : a.take (k + 1) = b.take (k + 1) := by
  rw [List.take_succ_eq_append_getElem h1, List.take_succ_eq_append_getElem h2, h, he]
set_option maxHeartbeats 1000000 in
set_option maxRecDepth 100000 in
theorem same_any (A A' : Option Addr) (n c n' c' : Nat) (a b : List Int) (w : World) (h : NRow w A n c a) (h' : NRow w A' n' c' b) (hn : n ≤ 1000) (hn' : n' ≤ 1000) :
    Calls Try.prog 9 #[.slice A n c, .slice A' n' c'] w fun e w' => e = .returned (.bool (decide (a = b))) ∧ Below w.heap.size w w' := by
  have hl := h.len
  have hl' := h'.len
  by_cases hne : n = n'
  · subst hne
    have HV := Lib.hid h
    have HV' := Lib.hid h'
    have HL := Lib.hid hl
    have HL' := Lib.hid hl'
    clear h h' hl hl'
    go_enter Try.func9, Try.ntmps9
    go_wp2_with fail
    go_loopw [4, 13] (fun _ i wr => ∃ k : Nat, k ≤ n ∧ i = .int .i64 k ∧ Hid (a.take k = b.take k) ∧ Hid (Below w.heap.size w wr)) (fun _ i _ => n - (intOf i).toNat)
    case atStart => exact ⟨0, by omega, rfl, Lib.hid (by simp), Lib.hid (Below.refl _ _)⟩
    case round =>
      obtain ⟨k, hk, rfl, H, hb⟩ := hrel
      by_cases hlt : k < n
      · have hlt' : k < a.length := by rw [HL.out]; exact hlt
        have hlt2 : k < b.length := by rw [HL'.out]; exact hlt
        obtain ⟨b1, off, rfl, hbl, hc⟩ := HV.out.at hlt'
        obtain ⟨b2, off2, rfl, hbl2, hc2⟩ := HV'.out.at hlt2
        have HC := Lib.hid hc
        have HC2 := Lib.hid hc2
        have hst := Lib.hid (take_same hlt' hlt2 H.out)
        have hno : Hid (a[k] ≠ b[k] → a ≠ b) := Lib.hid (fun h e => by subst e; exact h rfl)
        clear hc hc2
        generalize a[k] = x at *
        generalize b[k] = y at *
        have hki : (k : Int) < (n : Int) := by omega
        obtain ⟨F, hF⟩ : ∃ F, (x != y) = F := ⟨_, rfl⟩
        go_wp2_with fail
        refine wp_region_sched [(0, true), (1, true), (2, true), (3, true), (4, true), (5, true), (6, true), (7, true), (8, true)] (by kernel_rfl) (by kernel_rfl) (fun _ _ d _ _ h => by cases d <;> exact h) ?_
        refine swith (fun W hW => (HC.out W (hb.out.drew.trans (hW.out.mono hb.out.size)))) (fun q1 => ?_)
        refine swith (fun W hW => (HC2.out W (hb.out.drew.trans (hW.out.mono hb.out.size)))) (fun q2 => ?_)
        repeat (first | (refine sreadx rfl rfl ?_; apply Exists.intro; apply And.intro; (· (intro W hW; first | (go_simp; done) | (go_simp; with_reducible rfl) | (go_simp; rw [if_neg (by omega)]; done) | (go_simp; rw [if_neg (by omega)]; with_reducible rfl))); simp only [Act.put, List.setIfInBounds_toArray, List.set_cons_zero, List.set_cons_succ]) | (refine sskip rfl rfl ?_; simp only [Act.put, List.setIfInBounds_toArray, List.set_cons_zero, List.set_cons_succ]))
        refine sdone ?_
        cases F with
        | false =>
          have he : x = y := by simpa using hF
          have hst' := Lib.hid (hst.out he)
          clear he hst hno
          go_wp2_with fail
          go_roundw
          case rel => exact ⟨k + 1, by omega, by go_num, hst', Lib.hid hb.out.drew⟩
          case measure => simp [intOf]; omega
        | true =>
          have he : x ≠ y := by simpa using hF
          have hno' := Lib.hid (hno.out he)
          clear he hst hno
          go_wp2_with fail
          go_ret
          exact ⟨by rw [decide_eq_false hno'.out]; rfl, hb.out.drew⟩
      · obtain rfl : k = n := by omega
        have heq := H.out
        rw [List.take_of_length_le (by rw [HL.out]; exact Nat.le_refl _), List.take_of_length_le (by rw [HL'.out]; exact Nat.le_refl _)] at heq
        have HEQ := Lib.hid heq
        clear heq
        go_wp2_with fail
        go_ret
        exact ⟨by rw [decide_eq_true HEQ.out]; rfl, hb.out⟩
  · have hr : Hid (a ≠ b) := Lib.hid (fun e => hne (by rw [← hl, ← hl', e]))
    have d1 : ((n : Int) != (n' : Int)) = true := by simp; omega
    clear hl hl' h h'
    go_enter Try.func9, Try.ntmps9
    go_wp2_with fail
    go_ret
    exact ⟨by rw [decide_eq_false hr.out]; rfl, Below.refl _ _⟩
end Go.Proofs.Ytpdfhbgemmpleaa.T
