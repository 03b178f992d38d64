/- The contracts of waits' Round, Victim and Runs. -/
import Derived.Test.YtpdfhbgemmpleaaWtRising
namespace Go.Proofs.Ytpdfhbgemmpleaa.T
open Go.RowKit

noncomputable def reachB (E : Int → List Int) (x y : Int) : Bool := @decide (Reach E x y) (Classical.propDecidable _)
theorem reachB_iff {E : Int → List Int} {x y : Int} : reachB E x y = true ↔ Reach E x y := by unfold reachB; exact @decide_eq_true_iff _ (Classical.propDecidable _)
theorem one_cell {W : World} {b : Nat} {v : Value} {T : TypeId} (h : W.heap[b]? = some (.cells #[v] T (0, 0))) : W.cell? ⟨b, 0, none⟩ = some v := by rw [Lib.cell_of_heap h]; rfl
/-- The boxes that Round's closure has caught. -/
structure RC (w : World) (g5 g3 be : Nat) (L : Gr) (who : Int) : Prop where
  eb : w.heap[g5]? = some (.cells #[.map (some be)] 45 (0, 0))
  wb : w.heap[g3]? = some (.cells #[.int .i64 who] 3 (0, 0))
  mp : EMap w be L
theorem RC.next {w W : World} {g5 g3 be : Nat} {L : Gr} {who : Int} (h : RC w g5 g3 be L who) (b : Below w.heap.size w W) : RC W g5 g3 be L who := ⟨box_next h.eb b, box_next h.wb b, h.mp.next b⟩
set_option maxRecDepth 100000 in
theorem round1_any (g5 g3 be : Nat) (L : Gr) (who x : Int) (w : World) (h : RC w g5 g3 be L who) (ok : GOk L) (hw : wf who) (hx : wf x) :
    Calls Try.prog 21 #[.int .i64 x, .pointer (some ⟨g5, 0, none⟩), .pointer (some ⟨g3, 0, none⟩)] w fun e w' => e = .returned (.bool (reachB (forE L) x who)) ∧ Below w.heap.size w w' := by
  have HR := Lib.hid h
  have OK := Lib.hid ok
  have HWW := Lib.hid hw
  have HWX := Lib.hid hx
  clear h ok hw hx
  go_enter Try.func21, Try.ntmps21
  go_wp2_with fail
  refine wp_region_sched [(0, true), (1, true), (3, true), (2, false), (4, true), (5, true), (6, true)] (by kernel_rfl) (by kernel_rfl) (fun _ _ d _ _ h => by cases d <;> exact h) ?_
  refine sbelow (w0 := w) ((Below.refl _ _).drew) (fun B0 => ?_)
  refine swith (fun W hW => (one_cell (HR.out.next (bthen B0 hW.out)).eb)) (fun q5 => ?_)
  refine swith (fun W hW => (one_cell (HR.out.next (bthen B0 hW.out)).wb)) (fun q3 => ?_)
  repeat (first | (refine sreadx rfl rfl ?_; apply Exists.intro; apply And.intro; (· (intro W hW; first | (go_simp; done) | (go_simp; with_reducible rfl) | (go_simp; rw [if_neg (by omega)]; done) | (go_simp; rw [if_neg (by omega)]; with_reducible rfl))); simp only [Act.put, List.setIfInBounds_toArray, List.set_cons_zero, List.set_cons_succ]) | (refine sskip rfl rfl ?_; simp only [Act.put, List.setIfInBounds_toArray, List.set_cons_zero, List.set_cons_succ]))
  refine scall rfl rfl (fun K hK => ?_)
  go_simp
  refine (comes_any be L x _ (HR.out.next B0).mp OK.out HWX.out).mono ?_; rintro e w3 ⟨b, S, rfl, m3, hS, _, b3⟩
  go_wp2_with fail
  refine hK.out _ _ (by exact b3) ?_
  clear hK K
  try simp only [Act.put, List.setIfInBounds_toArray, List.set_cons_zero, List.set_cons_succ]
  replace q5 := fun (W : World) (hW : Grow w3 W) => q5 W (Grow.trans (b3) hW)
  replace q3 := fun (W : World) (hW : Grow w3 W) => q3 W (Grow.trans (b3) hW)
  have M3 := Lib.hid m3
  have B3 := bthen B0 b3
  have hqq : (decide ((0 : Int) < if who ∈ S then 1 else 0)) = reachB (forE L) x who := by
    by_cases hm : who ∈ S
    · rw [if_pos hm, reachB_iff.2 ((hS who).1 hm)]; decide
    · rw [if_neg hm]
      cases hr : reachB (forE L) x who
      · decide
      · exact absurd ((hS who).2 (reachB_iff.1 hr)) hm
  have HQ := Lib.hid hqq
  clear m3 hS b3 hqq
  refine swith (fun W hW => ((M3.out.next hW.out).look HWW.out)) (fun ql => ?_)
  obtain ⟨cv, hcv⟩ : ∃ cv, (if who ∈ S then (1 : Int) else 0) = cv := ⟨_, rfl⟩
  rw [hcv] at ql HQ
  clear hcv
  repeat (first | (refine sreadx rfl rfl ?_; apply Exists.intro; apply And.intro; (· (intro W hW; first | (go_simp; done) | (go_simp; with_reducible rfl) | (go_simp; rw [if_neg (by omega)]; done) | (go_simp; rw [if_neg (by omega)]; with_reducible rfl))); simp only [Act.put, List.setIfInBounds_toArray, List.set_cons_zero, List.set_cons_succ]) | (refine sskip rfl rfl ?_; simp only [Act.put, List.setIfInBounds_toArray, List.set_cons_zero, List.set_cons_succ]))
  refine sdone ?_
  go_wp2_with fail
  go_ret
  exact ⟨by rw [← HQ.out]; rfl, B3⟩
/-- Who is round about with somebody. -/
def roundP (L : Gr) (who x : Int) : Prop := Reach (forE L) who x ∧ Reach (forE L) x who
/-- Who runs behind somebody. -/
def runsP (L : Gr) (who x : Int) : Prop := (Reach (forE L) who x ∨ x = who) ∧ forE L x = []
def RetN (p : Int → Prop) (w : World) (e : Ending) (w' : World) : Prop := ∃ A n c l, e = .returned (.slice A n c) ∧ w'.ownsRow w.heap.size 3 1 (.slice A n c) n (iv l) ∧ IsRow p l ∧ Below w.heap.size w w'
set_option maxHeartbeats 2000000 in
set_option maxRecDepth 100000 in
theorem round_any (A : Option Addr) (n c : Nat) (L : Gr) (who : Int) (w : World) (h : GRow w A n c L) (ok : GOk L) (hw : wf who) :
    Calls Try.prog 8 #[.slice A n c, .int .i64 who] w (RetN (roundP L who) w) := by
  have HG := Lib.hid h
  have OK := Lib.hid ok
  have HW := Lib.hid hw
  have BA : Below w.heap.size w (w.alloc (.cells #[.int .i64 who] 3)) := (Below.refl _ _).alloc (Nat.le_refl _) _
  have HBA := Lib.hid BA
  have HX1 := Lib.hid (heap_alloc_new w (.cells #[.int .i64 who] 3))
  clear h ok hw BA
  go_enter Try.func8, Try.ntmps8
  go_wp2_with fail
  refine (wrow_any A n c L _ (HG.out.next HBA.out) OK.out).mono ?_; rintro e w2 ⟨be, rfl, m2, b2⟩
  have B2 := bthen HBA.out b2
  have BC : Below w2.heap.size w2 (w2.alloc (.cells #[.map (some be)] 45)) := (Below.refl _ _).alloc (Nat.le_refl _) _
  have HR := Lib.hid (RC.mk (heap_alloc_new w2 (.cells #[.map (some be)] 45)) (box_next (box_next HX1.out b2) BC) (m2.next BC) : RC _ w2.heap.size w.heap.size be L who)
  have HB3 := Lib.hid (bthen B2 BC)
  have x5 := one_cell HR.out.eb
  have x3 := one_cell HR.out.wb
  clear b2 B2 BC m2
  go_wp2_with fail
  refine (comes_any be L who _ HR.out.mp OK.out HW.out).mono ?_; rintro e w4 ⟨b, S, rfl, m4, hS, _, b4⟩
  have HR4 := Lib.hid (HR.out.next b4)
  have HB4 := Lib.hid (bthen HB3.out b4)
  have HM4 := Lib.hid m4
  have HS := Lib.hid hS
  have hSl : S.length ≤ 500 := by
    obtain ⟨D, _, hd⟩ := m4
    exact Nat.le_trans (nodup_len hd.nd (fun x hx => ((hS x).1 hx).inAll)) (Nat.le_trans OK.out.allLen (by decide))
  clear x5 x3 m4 hS b4 HR HB3
  go_wp2_with fail
  refine (rising_any 21 #[.pointer (some ⟨w2.heap.size, 0, none⟩), .pointer (some ⟨w.heap.size, 0, none⟩)] (fun x => reachB (forE L) x who) b S _ HM4.out hSl Try.call21 (fun W x _ hx bW => round1_any w2.heap.size w.heap.size be L who x W (HR4.out.next bW) OK.out HW.out hx)).mono ?_; rintro e w5 ⟨A5, n5, c5, l5, rfl, o5, r5, b5⟩
  have HO5 := Lib.hid o5
  have HR5 := Lib.hid r5
  clear o5 r5
  go_wp2_with fail
  go_ret
  refine ⟨A5, n5, c5, l5, rfl, own_moreT HO5.out HB4.out.size, HR5.out.imp (fun x => ?_), bthen HB4.out b5⟩
  rw [HS.out x, reachB_iff]
  exact Iff.rfl
set_option maxRecDepth 100000 in
theorem runs1_any (g5 be : Nat) (L : Gr) (x : Int) (w : World) (he : w.heap[g5]? = some (.cells #[.map (some be)] 45 (0, 0))) (hm : EMap w be L) (hx : wf x) :
    Calls Try.prog 24 #[.int .i64 x, .pointer (some ⟨g5, 0, none⟩)] w fun e w' => e = .returned (.bool (decide (forE L x = []))) ∧ Below w.heap.size w w' := by
  have x5 := one_cell he
  obtain ⟨A, n, c, hr, hrun⟩ := hm.look hx
  have hl := hr.len
  have hb : ((n : Int) == 0) = decide (forE L x = []) := by
    rw [← hl]
    cases forE L x with
    | nil => rfl
    | cons a l => simp; omega
  have HB := Lib.hid hb
  clear hb hl hr
  go_enter Try.func24, Try.ntmps24
  go_wp2_with fail
  go_ret
  exact ⟨by rw [← HB.out]; rfl, Below.refl _ _⟩
set_option maxHeartbeats 2000000 in
set_option maxRecDepth 100000 in
theorem runs_any (A : Option Addr) (n c : Nat) (L : Gr) (who : Int) (w : World) (h : GRow w A n c L) (ok : GOk L) (hw : wf who) :
    Calls Try.prog 13 #[.slice A n c, .int .i64 who] w (RetN (runsP L who) w) := by
  have HG := Lib.hid h
  have OK := Lib.hid ok
  have HW := Lib.hid hw
  clear h ok hw
  go_enter Try.func13, Try.ntmps13
  go_wp2_with fail
  refine (wrow_any A n c L _ HG.out OK.out).mono ?_; rintro e w2 ⟨be, rfl, m2, b2⟩
  have BC : Below w2.heap.size w2 (w2.alloc (.cells #[.map (some be)] 45)) := (Below.refl _ _).alloc (Nat.le_refl _) _
  have HX3 := Lib.hid (heap_alloc_new w2 (.cells #[.map (some be)] 45))
  have HE3 := Lib.hid (m2.next BC)
  have HB3 := Lib.hid (bthen b2 BC)
  have x5 := one_cell HX3.out
  clear b2 BC m2
  go_wp2_with fail
  refine (comes_any be L who _ HE3.out OK.out HW.out).mono ?_; rintro e w4 ⟨b, S, rfl, m4, hS, hb0, b4⟩
  have HX4 := Lib.hid (box_next HX3.out b4)
  have HE4 := Lib.hid (HE3.out.next b4)
  have HB4 := Lib.hid (bthen HB3.out b4)
  have HM4 := Lib.hid m4
  have HS := Lib.hid hS
  have hbw : w2.heap.size < b := by simp at hb0; omega
  have hew : be < w2.heap.size + 1 := by have := HE3.out.lt; simpa using this
  have hne : be ≠ b := by omega
  have hwb : w.heap.size ≤ b := by have := HB3.out.size; simp at this; omega
  have hne2 : w2.heap.size ≠ b := by omega
  have hSl : S.length ≤ 440 := by
    obtain ⟨D, _, hd⟩ := m4
    exact Nat.le_trans (nodup_len hd.nd (fun x hx => ((hS x).1 hx).inAll)) OK.out.allLen
  have hS1000 : S.length < 1000 := by omega
  clear x5 m4 hS b4 HB3 HX3 HE3 hb0
  go_wp2_with (at_mapUpdate; refine wpList_put_m rfl (.tmp 12) (.tmp 13) (.const (.int .i64 1)) rfl rfl rfl rfl HM4.out HW.out hS1000 ?_; intro w5 hm5 g5; have HM5 := Lib.hid hm5; have HB5 := Lib.hid (below_gb HB4.out g5 hwb); have HX5 : Hid (w5.heap[w2.heap.size]? = _) := Lib.hid ((g5.block w2.heap.size (Array.getElem?_eq_some_iff.1 HX4.out).1 (fun e => hne2 (by injection e))).trans HX4.out); have HE5 := Lib.hid (HE4.out.grownMap g5 HM4.out hne); clear hm5 g5)
  have hlen5 : (if who ∈ S then S else who :: S).length ≤ 500 := by
    split
    · omega
    · simp; omega
  refine (rising_any 24 #[.pointer (some ⟨w2.heap.size, 0, none⟩)] (fun x => decide (forE L x = [])) b _ _ HM5.out hlen5 Try.call24 (fun W x _ hx bW => runs1_any w2.heap.size be L x W (box_next HX5.out bW) (HE5.out.next bW) hx)).mono ?_; rintro e w6 ⟨A6, n6, c6, l6, rfl, o6, r6, b6⟩
  have HO6 := Lib.hid o6
  have HR6 := Lib.hid r6
  clear o6 r6
  go_wp2_with fail
  go_ret
  refine ⟨A6, n6, c6, l6, rfl, own_moreT HO6.out HB5.out.size, HR6.out.imp (fun x => ?_), bthen HB5.out b6⟩
  unfold runsP
  rw [decide_eq_true_iff, ← HS.out x]
  refine and_congr_left fun _ => ?_
  split
  · rename_i hm
    constructor
    · exact .inl
    · rintro (h | rfl)
      · exact h
      · exact hm
  · simp only [List.mem_cons]
    exact or_comm
def lastI (l : List Int) : Int := l.getD (l.length - 1) 0
theorem round_len {L : Gr} {who : Int} {l : List Int} (ok : GOk L) (h : IsRow (roundP L who) l) : l.length ≤ 440 := Nat.le_trans (nodup_len h.nodup (fun x hx => ((h.mem x).1 hx).1.inAll)) ok.allLen
theorem runs_len {L : Gr} {who : Int} {l : List Int} (ok : GOk L) (h : IsRow (runsP L who) l) : l.length ≤ 441 := by
  refine Nat.le_trans (nodup_len (U := who :: allE L) h.nodup (fun x hx => ?_)) (by simp; exact ok.allLen)
  rcases ((h.mem x).1 hx).1 with h1 | h1
  · simp [h1.inAll]
  · simp [h1]
set_option maxRecDepth 100000 in
theorem victim_any (A : Option Addr) (n c : Nat) (L : Gr) (who : Int) (w : World) (h : GRow w A n c L) (ok : GOk L) (hw : wf who) :
    Calls Try.prog 12 #[.slice A n c, .int .i64 who] w fun e w' => (∃ l v, IsRow (roundP L who) l ∧ v = lastI l ∧ e = .returned (.tuple #[.int .i64 v, .bool (!l.isEmpty)])) ∧ Below w.heap.size w w' := by
  have H := Lib.hid (round_any A n c L who w h ok hw)
  have OK := Lib.hid ok
  clear h ok hw
  go_enter Try.func12, Try.ntmps12
  go_wp2_with fail
  refine H.out.mono ?_; rintro e w2 ⟨A2, n2, c2, l, rfl, o2, hr, b2⟩
  have hl : l.length = n2 := by have := o2.1; simpa using this
  have HR := Lib.hid hr
  have hcap := own_capN o2
  clear hr
  rcases Nat.eq_zero_or_pos n2 with h0 | hp
  · subst h0
    have hl0 : l = [] := List.eq_nil_of_length_eq_zero hl
    subst hl0
    clear o2
    go_wp2_with fail
    go_ret2
    exact ⟨⟨[], 0, HR.out, rfl, rfl⟩, b2⟩
  · obtain ⟨k, rfl⟩ : ∃ k, n2 = k + 1 := ⟨n2 - 1, by omega⟩
    obtain ⟨b, off, rfl, hbl, hc⟩ := (NRow.own o2).at (j := k) (by omega)
    have hcell := hc w2 (Below.refl _ _)
    have hn1 : k + 1 ≤ 1000 := by have := round_len OK.out HR.out; omega
    obtain ⟨q, hq⟩ : ∃ q, k + 1 = q := ⟨_, rfl⟩
    have hwr : IntKind.i64.wrap ((q : Int) - 1) = (k : Int) := by rw [IntWalk.i64_in _ (by omega)]; omega
    have hkq : k < q := by omega
    have hkqi : (k : Int) < (q : Int) := by omega
    have hq0 : ((q : Int) == 0) = false := by simp; omega
    have hlast : l[k]'(by omega) = lastI l := by
      unfold lastI
      have e1 : l.length - 1 = k := by omega
      rw [List.getD_eq_getElem?_getD, e1, List.getElem?_eq_getElem (by omega)]; rfl
    have hemp : (!l.isEmpty) = true := by cases l <;> simp at hl ⊢
    rw [hlast] at hcell
    obtain ⟨v, hv⟩ : ∃ v, lastI l = v := ⟨_, rfl⟩
    have HV := Lib.hid hv
    rw [hv] at hcell hlast
    clear hv hlast
    rw [hq]
    clear o2 hc
    go_wp2_with fail
    go_ret2
    exact ⟨⟨l, v, HR.out, HV.out.symm, by rw [hemp]; rfl⟩, b2⟩
end Go.Proofs.Ytpdfhbgemmpleaa.T
