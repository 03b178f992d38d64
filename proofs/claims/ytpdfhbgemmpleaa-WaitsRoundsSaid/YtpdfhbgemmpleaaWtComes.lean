/- The contract of waits' comes. -/
import Derived.Test.YtpdfhbgemmpleaaWtFns
import Derived.WalkMore
namespace Go.Proofs.Ytpdfhbgemmpleaa.T
open Go.RowKit

theorem own_trunc {w : World} {base e n c k : Nat} {A : Option Addr} {xs : List Value} (h : w.ownsRow base e 1 (.slice A n c) n xs) (hk : k ≤ n) (h0 : 0 < n) : w.ownsRow base e 1 (.slice A k c) k (xs.take k) := by
  refine ⟨by have := h.1; rw [List.length_take]; omega, ?_⟩
  rcases h.2 with ⟨_, h1⟩ | ⟨g, cap, cur, hv, hb, hg, hnc, hcm, hs, ht⟩
  · omega
  · injection hv with hA _ hc
    subst hA hc
    refine .inr ⟨g, c, cur, rfl, hb, hg, Nat.le_trans hk hnc, hcm, hs, ?_⟩
    rw [← ht, List.take_take]
    congr 1
    omega
theorem own_moreT {w : World} {base base' e size n : Nat} {v : Value} {xs : List Value} (h : w.ownsRow base e size v n xs) (hb : base' ≤ base) : w.ownsRow base' e size v n xs := own_more h hb
theorem GOk.all {L : Gr} (h : GOk L) {x : Int} (hx : x ∈ allE L) : wf x := by
  obtain ⟨p, hp, hy⟩ := List.mem_flatMap.1 hx
  exact h.e p hp x hy
theorem GOk.allLen {L : Gr} (h : GOk L) : (allE L).length ≤ 440 := allE_len h.n h.m
theorem CI.small {L : Gr} {who : Int} {S todo : List Int} (ok : GOk L) (h : CI (forE L) who S todo) : S.length ≤ 440 := Nat.le_trans (nodup_len h.nd (fun x hx => (h.s x hx).inAll)) ok.allLen
theorem clone_any (A : Option Addr) (n c : Nat) (l : List Int) (w : World) (h : NRow w A n c l) (hn : l.length ≤ 1000) :
    Calls Try.prog 27 #[.slice A n c] w fun e w' => ∃ A' c', e = .returned (.slice A' n c') ∧ w'.ownsRow w.heap.size 3 1 (.slice A' n c') n (iv l) ∧ Below w.heap.size w w' := by
  have hl := h.len
  have fin : ∀ (v : Value) (w' : World), w'.ownsRow w.heap.size 3 1 v n (iv l) → ∃ A' c', v = .slice A' n c' := by
    intro v w' ho
    rcases ho.2 with ⟨hv, h0⟩ | ⟨g, cap, cur, hv, _⟩
    · exact ⟨none, 0, by rw [hv, h0]⟩
    · exact ⟨_, _, hv⟩
  rcases A with _ | a
  · have h0 : l = [] := by
      rcases l with _ | ⟨x, l⟩
      · rfl
      · obtain ⟨b, off, e, _⟩ := h.rd.2 (by simp); cases e
    subst h0
    have hn0 : n = 0 := by simpa using hl.symm
    subst hn0
    refine (Try.slices_Clone_int_nil 0 c w).mono ?_
    rintro e w' ⟨rfl, rfl⟩
    exact ⟨none, 0, rfl, World.ownsRow_nil _ _ _ _, Below.refl _ _⟩
  · rcases Nat.eq_zero_or_pos n with hn0 | hp
    · subst hn0
      have h0 : l = [] := List.eq_nil_of_length_eq_zero hl
      subst h0
      refine (Try.slices_Clone_int_zero a c w).mono ?_
      rintro e w' ⟨v, rfl, ho, _, hb⟩
      obtain ⟨A', c', rfl⟩ := fin v w' ho
      exact ⟨A', c', rfl, ho, hb⟩
    · obtain ⟨b, off, e, hb, hc⟩ := h.rd.2 (by simp; omega)
      injection e with e
      subst e
      refine (Try.slices_Clone_int b off n c l w (by omega) (by omega) (fun j hj => ?_)).mono ?_
      · rw [hc j (by simpa using hj), iv_get hj]
        simp [List.getD, hj]
      · rintro e w' ⟨v, rfl, ho, _, hb⟩
        rw [List.take_of_length_le (by omega)] at ho
        obtain ⟨A', c', rfl⟩ := fin v w' ho
        exact ⟨A', c', rfl, ho, hb⟩
def lenOf (v : Value) : Nat := match v with
  | .slice _ n _ => n
  | _ => 0
theorem iv_take (l : List Int) (k : Nat) : (iv l).take k = iv (l.take k) := by simp [iv, List.map_take]
set_option maxHeartbeats 4000000 in
set_option maxRecDepth 100000 in
theorem comes_any (be : Nat) (L : Gr) (who : Int) (w : World) (h : EMap w be L) (ok : GOk L) (hw : wf who) :
    Calls Try.prog 20 #[.map (some be), .int .i64 who] w fun e w' => ∃ b S, e = .returned (.map (some b)) ∧ MMap w' b S ∧ (∀ x, x ∈ S ↔ Reach (forE L) who x) ∧ w.heap.size ≤ b ∧ Below w.heap.size w w' := by
  have HE := Lib.hid h
  have OK := Lib.hid ok
  have M0 := MMap.made w
  have B0 : Below w.heap.size w (w.alloc (.map #[] 0)) := (Below.refl _ _).alloc (Nat.le_refl _) _
  have hs1 : (w.alloc (.map #[] 0)).heap.size = w.heap.size + 1 := by simp
  obtain ⟨A0, n0, c0, hr0, hrun0⟩ := (h.next B0).look hw
  have hl0 := (ok.forE who).1
  have HR0 := Lib.hid hr0
  have HM0 := Lib.hid M0
  have HB0 := Lib.hid B0
  have HS1 := Lib.hid hs1
  clear h ok hr0 M0 B0 hs1
  have hmm := @run_makeMap Try.prog
  go_enter Try.func20, Try.ntmps20
  go_wp2_with fail
  go_step3
  go_wp2_with fail
  refine (clone_any A0 n0 c0 _ _ HR0.out (by omega)).mono ?_; rintro e w2 ⟨A1, c1, rfl, o2, b2⟩
  rw [HS1.out] at o2
  have hn0 := HR0.out.len
  have M2 := Lib.hid (HM0.out.next b2)
  have B2 := Lib.hid (bthen HB0.out b2)
  have O2 := Lib.hid o2
  have HC2 := Lib.hid (CI.start (forE L) who)
  clear HR0 hrun0 HM0 HB0 HS1 o2 b2 hmm
  go_wp2_with fail
  go_step3
  go_wp2_with fail
  go_loopw [6] (fun tv wr => ∃ (A : Option Addr) (m c : Nat) (S todo : List Int), tv = .slice A m c ∧ m ≤ 11 * (S.length + 1) ∧ Hid (wr.ownsRow (w.heap.size + 1) 3 1 (.slice A m c) m (iv todo)) ∧ Hid (MMap wr w.heap.size S) ∧ Hid (CI (forE L) who S todo) ∧ Hid (Below w.heap.size w wr)) (fun tv wr => (500 - mapSize wr w.heap.size) * 12 + lenOf tv)
  case atStart => exact ⟨A1, n0, c1, [], forE L who, rfl, by simp; omega, O2, M2, HC2, B2⟩
  case round =>
    obtain ⟨A, m, c, S, todo, rfl, hm, HO, HM, HC, HB⟩ := hrel
    clear O2 M2 HC2 B2
    have htl : todo.length = m := by have := HO.out.1; simpa using this
    have hS := CI.small OK.out HC.out
    by_cases hm0 : m = 0
    · subst hm0
      have ht0 : todo = [] := List.eq_nil_of_length_eq_zero htl
      subst ht0
      have HF := Lib.hid HC.out.fin
      go_wp2_with fail
      rw [Exit.noGoto_ret]
      go_ret
      exact ⟨_, S, rfl, HM.out, HF.out, Nat.le_refl _, HB.out⟩
    · obtain ⟨k, rfl⟩ : ∃ k, m = k + 1 := ⟨m - 1, by omega⟩
      obtain ⟨t, x, rfl⟩ : ∃ t x, todo = t ++ [x] := ⟨todo.dropLast, todo.getLast (by intro e; rw [e] at htl; simp at htl), (List.dropLast_concat_getLast _).symm⟩
      have htk : t.length = k := by simpa using htl
      obtain ⟨b, off, rfl, hbl, hc⟩ := (NRow.own HO.out).at (j := k) (by simp; omega)
      have hcell := hc wr (Below.refl _ _)
      have hget : (t ++ [x])[k]'(by simp; omega) = x := by subst htk; simp
      rw [hget] at hcell
      have HOT := own_trunc HO.out (k := k) (by omega) (by omega)
      rw [iv_take, show (t ++ [x]).take k = t by subst htk; simp] at HOT
      have HO2 := Lib.hid HOT
      have hkc : k + 1 ≤ c := own_capN HO.out
      have hwx : wf x := OK.out.all (HC.out.t x (by simp)).inAll
      have HWX := Lib.hid hwx
      have hlook := HM.out.look hwx
      obtain ⟨q, hq⟩ : ∃ q, k + 1 = q := ⟨_, rfl⟩
      have hwr : IntKind.i64.wrap ((q : Int) - 1) = (k : Int) := by rw [IntWalk.i64_in _ (by omega)]; omega
      have hkq : k < q := by omega
      have hkqi : (k : Int) < (q : Int) := by omega
      have hq0 : ((q : Int) == 0) = false := by simp; omega
      have hkc2 : k ≤ c := by omega
      have hkci : (k : Int) ≤ (c : Int) := by omega
      rw [hq] at hm htl hkc ⊢
      clear hc hget HOT hwx
      by_cases hxS : x ∈ S
      · rw [if_pos hxS] at hlook
        have HC2 := Lib.hid (HC.out.skip hxS)
        go_wp2_with fail
        go_roundw
        case rel => exact ⟨_, k, c, S, t, rfl, by omega, HO2, HM, HC2, HB⟩
        case measure => simp [lenOf]; omega
      · rw [if_neg hxS] at hlook
        have HC2 := Lib.hid (HC.out.add hxS)
        have HXS := Lib.hid hxS
        have HEL := Lib.hid (OK.out.forE x)
        have hS1000 : S.length < 1000 := by omega
        clear hxS
        go_wp2_with (first
          | (at_mapUpdate; refine wpList_put_m rfl (.tmp 31) (.tmp 32) (.const (.int .i64 1)) rfl rfl rfl rfl HM.out HWX.out hS1000 ?_; intro w5 hm5 g5; rw [if_neg HXS.out] at hm5; have HM5 := Lib.hid hm5; have HB5 := Lib.hid (below_gb HB.out g5 (Nat.le_refl _)); have HO5 := Lib.hid (HO2.out.kept g5 (.inr (fun e => by have := (HO2.out.lt _ e).1; omega))); obtain ⟨A2, n2, c2, hr2, hrun2⟩ := (HE.out.next HB5.out).look HWX.out; have HR2 := Lib.hid hr2; have hn2 := hr2.len; have hs5 := g5.size; clear hm5 g5 hr2 hlook)
          | (at_builtin; refine wpList_app rfl (.tmp 33) (.tmp 36) intE rfl (w.heap.size + 1) (iv t) rfl HO5.out rfl (iv (forE L x)) HR2.out.rd (iv_one _) (by unfold maxLen; have := HEL.out.1; omega) (by have := HEL.out.1; omega) (by have := HM5.out.lt; omega) ?_; intro A6 c6 w6 o6 g6 _; rw [← iv_append] at o6; have HO6 := Lib.hid o6; have HG6 := Lib.hid g6; clear o6 g6))
        have hob : ∀ g, (Value.slice (some ⟨b, off, none⟩) k c).ownBlock = some g → w.heap.size + 1 ≤ g := fun g hg => (HO2.out.lt _ hg).1
        have HM6 := Lib.hid (HM5.out.grown HG6.out (fun e => by have := hob _ e.symm; omega))
        have HB6 : Hid (Below w.heap.size w w6) := Lib.hid (HB5.out.trans ⟨HG6.out.os, HG6.out.tape, HG6.out.output, HG6.out.size, fun i hi => HG6.out.block i (Nat.lt_of_lt_of_le hi HB5.out.size) (fun e => by have := hob _ e.symm; omega)⟩)
        have hmz := HM6.out.size
        have hmz0 := HM.out.size
        have hel := HEL.out.1
        go_roundw
        case rel => exact ⟨A6, k + n2, c6, x :: S, t ++ forE L x, rfl, by simp; omega, HO6, HM6, HC2, HB6⟩
        case measure => rw [hmz, hmz0]; simp [lenOf]; omega
end Go.Proofs.Ytpdfhbgemmpleaa.T
