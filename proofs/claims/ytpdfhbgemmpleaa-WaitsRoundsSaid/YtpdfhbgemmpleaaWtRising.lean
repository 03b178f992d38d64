/- The contracts of slices.Sort at a row of the call's own, and of waits' rising. -/
import Derived.Test.YtpdfhbgemmpleaaWtComes
import Derived.Test.YtpdfhbgemmpleaaLaws2
namespace Go.Proofs.Ytpdfhbgemmpleaa.T
open Go.RowKit

def srt (l : List Int) : List Int := l.mergeSort fun x y => decide (x ≤ y)
theorem srt_len (l : List Int) : (srt l).length = l.length := (List.mergeSort_perm l _).length_eq
theorem sort_any (A : Option Addr) (n c base : Nat) (l : List Int) (w : World) (h : w.ownsRow base 3 1 (.slice A n c) n (iv l)) (hn : n ≤ 1000) :
    Calls Try.prog 26 #[.slice A n c] w fun e w' => e = .returned (.tuple #[]) ∧ w'.ownsRow base 3 1 (.slice A n c) n (iv (srt l)) ∧ w.grownBy w' (Value.slice A n c).ownBlock := by
  have hl : l.length = n := by have := h.1; simpa using this
  rcases Nat.eq_zero_or_pos n with h0 | hp
  · subst h0
    have hl0 : l = [] := List.eq_nil_of_length_eq_zero hl
    subst hl0
    refine (Try.slices_Sort_int_none A c w).mono ?_
    rintro e w' ⟨rfl, rfl⟩
    exact ⟨rfl, by simpa [srt] using h, rfl, rfl, rfl, Nat.le_refl _, fun _ _ _ => rfl⟩
  · subst hl
    rcases h.2 with ⟨_, h1⟩ | ⟨g, cap, cur, hv, hb, hg, hnc, hcm, hs, ht⟩
    · omega
    · injection hv with hA _ hc
      subst hA hc
      rw [Nat.mul_one] at ht
      have hH := holds_of_blockI (ss := l) hg ht
      refine (Try.slices_Sort_int g 0 c l w hH (Array.getElem?_eq_some_iff.1 hg).1 (by omega)).mono ?_
      rintro e w' ⟨rfl, m, os, rfl⟩
      exact ⟨rfl, ownsRow_sortedI (ts := srt l) (ss := l) (srt_len l) hb hg hnc hcm hs, grownBy_sortedI _⟩
theorem filter_snoc (q : Int → Bool) (l : List Int) (x : Int) : (l ++ [x]).filter q = if q x = true then l.filter q ++ [x] else l.filter q := by
  rw [List.filter_append]
  split <;> simp [*]
set_option maxHeartbeats 4000000 in
set_option maxRecDepth 100000 in
theorem rising_any (fn : Nat) (caps : Array Value) (q : Int → Bool) (b : Nat) (S : List Int) (w : World) (h : MMap w b S) (hS : S.length ≤ 500) (hcall : ∀ args w, (callFunc fn args).run Try.prog w = .ok (.enter fn args) w)
    (hc : ∀ W x, x ∈ S → wf x → Below w.heap.size w W → Calls Try.prog fn (#[.int .i64 x] ++ caps) W fun e w' => e = .returned (.bool (q x)) ∧ Below W.heap.size W w') :
    Calls Try.prog 19 #[.map (some b), .func (.func fn) #[] caps] w fun e w' => ∃ A n c l, e = .returned (.slice A n c) ∧ w'.ownsRow w.heap.size 3 1 (.slice A n c) n (iv l) ∧ IsRow (fun x => x ∈ S ∧ q x = true) l ∧ Below w.heap.size w w' := by
  have HM := Lib.hid h
  have hlt := h.lt
  have HC := Lib.hid hc
  clear h hc
  go_enter Try.func19, Try.ntmps19
  go_wp2_with (first
    | (at_range; refine wpList_range_m rfl _ rfl rfl HM.out ?_; intro w0 cnt0 hr0 hg0 hs0)
    | go_in)
  go_frame
  have HR0 := Lib.hid hr0
  have HB0 : Hid (Below w.heap.size w w0) := Lib.hid ⟨hg0.os, hg0.tape, hg0.output, hg0.size, fun i hi => hg0.block i hi (by simp)⟩
  clear hr0 hg0 hs0
  go_loopw [4] (fun ov wr => ∃ (A : Option Addr) (n c : Nat) (done : List Int) (cnt : Nat), ov = .slice A n c ∧ Hid (wr.ownsRow (w.heap.size + 1) 3 1 (.slice A n c) n (iv (done.filter q))) ∧ Hid (MRng wr b w.heap.size S done cnt) ∧ Hid (Below w.heap.size w wr)) (fun _ wr => wr.rangeLeft b w.heap.size)
  case atStart => exact ⟨none, 0, 0, [], cnt0, rfl, Lib.hid (World.ownsRow_nil _ _ _ _), HR0, HB0⟩
  case round =>
    obtain ⟨A, n, c, done, cnt, rfl, HO, HR, HB⟩ := hrel
    clear HR0 HB0
    have hnl : (done.filter q).length = n := by have := HO.out.1; simpa using this
    have hdl : done.length ≤ 500 := by
      obtain ⟨D, left, _, h2, h3, h4, _⟩ := HR.out
      exact Nat.le_trans (nodup_len h3 (fun x hx => (h4 x hx).1)) hS
    have hn5 : n ≤ 500 := by have := List.length_filter_le q done; omega
    go_wp2_with (first
      | (at_next; refine wpList_next_m rfl _ rfl rfl HR.out ?_ ?_)
      | go_in)
    · intro hall
      have hrow : IsRow (fun x => x ∈ S ∧ q x = true) (srt (done.filter q)) := by
        obtain ⟨D, left, _, h2, h3, h4, _⟩ := HR.out
        refine (sorted_row (h3.filter _)).imp (fun x => ?_)
        simp only [List.mem_filter]
        exact ⟨fun ⟨h5, h6⟩ => ⟨(h4 x h5).1, h6⟩, fun ⟨h5, h6⟩ => ⟨hall x h5, h6⟩⟩
      have HROW := Lib.hid hrow
      clear hall hrow
      go_wp2_with fail
      refine (sort_any A n c _ _ _ HO.out (by omega)).mono ?_; rintro e w5 ⟨rfl, o5, g5⟩
      have hob : ∀ g, (Value.slice A n c).ownBlock = some g → w.heap.size + 1 ≤ g := fun g hg => (HO.out.lt _ hg).1
      have HB5 : Hid (Below w.heap.size w w5) := Lib.hid (HB.out.trans ⟨g5.os, g5.tape, g5.output, g5.size, fun i hi => g5.block i (Nat.lt_of_lt_of_le hi HB.out.size) (fun e => by have := hob _ e.symm; omega)⟩)
      have HO5 := Lib.hid o5
      clear o5 g5
      go_wp2_with fail
      go_ret
      exact ⟨A, n, c, _, rfl, own_moreT HO5.out (by omega), HROW.out, HB5.out⟩
    · intro x cv w1 cnt1 hxS hxd hwx hr1 hlt1 hg1 hs1 hen
      have HB1 := Lib.hid (below_gb HB.out hg1 (Nat.le_refl _))
      have HO1 := Lib.hid (HO.out.kept hg1 (by
        cases hv : (Value.slice A n c).ownBlock with
        | none => exact .inl rfl
        | some g => exact .inr (fun e => by injection e with e; have := (HO.out.lt _ hv).1; omega)))
      have HR1 := Lib.hid hr1
      have HCX := Lib.hid (HC.out w1 x hxS hwx HB1.out)
      have hle := HR.out.left_eq
      have hle1 := hr1.left_eq
      clear hr1 hg1 hs1 hxS hxd HO HR HB
      go_wp2_with fail
      refine HCX.out.mono ?_; rintro e w2 ⟨rfl, b2⟩
      have HB2 := Lib.hid (bthen HB1.out b2)
      have HO2 := Lib.hid (own_below HO1.out b2)
      have HR2 := Lib.hid (HR1.out.next b2)
      clear HB1 HO1 HR1 HCX b2
      cases hq : q x with
      | false =>
        go_wp2_with fail
        go_roundw
        case rel => exact ⟨A, n, c, done ++ [x], cnt1, rfl, Lib.hid (by rw [filter_snoc, hq, if_neg (by decide)]; exact HO2.out), HR2, HB2⟩
        case measure => rw [HR2.out.left_eq, hle]; exact hlt1
      | true =>
        go_wp2_with (at_builtin; refine wpList_app rfl (.tmp 15) (.tmp 17) intE rfl (w.heap.size + 1) (iv (done.filter q)) rfl (HO2.out.alloc _) rfl [.int .i64 x] (Rd.made _ [.int .i64 x] rfl (by simp)) (by simp [Value.oneCell']) (by unfold maxLen; omega) (by omega) (by have := HR2.out.lt; simp; omega) ?_; intro A6 c6 w6 o6 g6 _; rw [show ([Value.int .i64 x] : List Value) = iv [x] from rfl, ← iv_append] at o6; have HO6 := Lib.hid o6; have HG6 := Lib.hid g6; clear o6 g6)
        have hob : ∀ g, (Value.slice A n c).ownBlock = some g → w.heap.size + 1 ≤ g := fun g hg => (HO2.out.lt _ hg).1
        have BA : Below w2.heap.size w2 (w2.alloc (.cells #[.int .i64 x] 3)) := (Below.refl _ _).alloc (Nat.le_refl _) _
        have hB3 := bthen HB2.out BA
        have HB6 : Hid (Below w.heap.size w w6) := Lib.hid (hB3.trans ⟨HG6.out.os, HG6.out.tape, HG6.out.output, HG6.out.size, fun i hi => HG6.out.block i (Nat.lt_of_lt_of_le hi hB3.size) (fun e => by have := hob _ e.symm; omega)⟩)
        have HR6 := Lib.hid ((HR2.out.next BA).grown HG6.out (fun e => by have := hob _ e.symm; omega) (fun e => by have := hob _ e.symm; omega))
        go_roundw
        case rel => exact ⟨A6, n + 1, c6, done ++ [x], cnt1, rfl, Lib.hid (by rw [filter_snoc, hq, if_pos rfl]; exact HO6.out), HR6, HB6⟩
        case measure => rw [HR6.out.left_eq, hle]; exact hlt1
end Go.Proofs.Ytpdfhbgemmpleaa.T
