/- The contracts of the reference's log's Checkpoint and of billhookref04.Open. -/
import Derived.Test.YtkcehoejcklmfaaWalRefL
import Derived.Test.YtkcehoejcklmfaaSchedP
import Derived.Deep.DeepCutAuto
namespace Go.Proofs.Ytkcehoejcklmfaa.L
open Go.RowKit O D K

/-- The disk's own box is laid as well. -/
def FinB (w : World) (g : Nat) (r : Option Nat) (cs : Array Value) (kd : Nat) (s : St) (Z : Option Addr) (c : Nat) (Z' : Option Addr) (c' : Nat) (W : World) : Prop :=
  TwoB w cs W ∧ w.heap.size + 2 ≤ kd ∧ W.heap[kd]? = some (.cells #[.int .i64 (s.room : Int), str s.sure, str s.rest, .slice Z 2 c, .slice Z' 2 c'] 27 (0, 0)) ∧ Two W g r Z s.n0 s.n1 ∧ Two W g r Z' s.s0 s.s1
theorem noB_setCell {W : World} {k kd j : Nat} {u : Value} (h : NoB W k) (hu : noU8 u = true) : NoB (W.setCell ⟨kd, j, none⟩ u) k := by
  obtain ⟨cs, t, hb, hn, ht⟩ := h
  by_cases e : k = kd
  · subst e
    refine ⟨cs.set! j u, t, row_setCell hb, fun v hv => ?_, ht⟩
    simp at hv
    rcases Array.mem_or_eq_of_mem_setIfInBounds hv with h1 | h1
    · exact hn v h1
    · rw [h1]; exact hu
  · exact ⟨cs, t, (Below.heap_setCell _ _ _ _ e).trans hb, hn, ht⟩
/-- Two rows of texts, beside three boxes. -/
structure Keep3 (g : Nat) (r : Option Nat) (A : Option Addr) (a b : List UInt8) (A' : Option Addr) (a' b' : List UInt8) (k1 k2 k3 : Nat) (W : World) : Prop where
  t1 : Two W g r A a b
  t2 : Two W g r A' a' b'
  n1 : NoB W k1
  n2 : NoB W k2
  n3 : NoB W k3
theorem two_setCell {W : World} {g kd : Nat} {r : Option Nat} {j : Nat} {A : Option Addr} {a b : List UInt8} (h : Two W g r A a b) (hk : NoB W kd) (u : Value) : Two (W.setCell ⟨kd, j, none⟩ u) g r A a b :=
  h.box (N := kd) (n := 1) ((Box.refl _ _ _).setCell (by omega) (by omega) u) (fun k h1 h2 => by obtain rfl : k = kd := by omega
                                                                                                 exact hk)
theorem Keep3.setCell {g : Nat} {r : Option Nat} {A A' : Option Addr} {a b a' b' : List UInt8} {k1 k2 k3 : Nat} {W : World} (h : Keep3 g r A a b A' a' b' k1 k2 k3 W) {kd j : Nat} {u : Value} (hu : noU8 u = true) (hk : kd = k1 ∨ kd = k2 ∨ kd = k3) :
    Keep3 g r A a b A' a' b' k1 k2 k3 (W.setCell ⟨kd, j, none⟩ u) := by
  have hN : NoB W kd := by
    rcases hk with rfl | rfl | rfl
    · exact h.n1
    · exact h.n2
    · exact h.n3
  exact ⟨two_setCell h.t1 hN u, two_setCell h.t2 hN u, noB_setCell h.n1 hu, noB_setCell h.n2 hu, noB_setCell h.n3 hu⟩
def dz : Array Value := #[.int .i64 0, str [], str [], .slice none 0 0, .slice none 0 0]
section
variable {w W : World} {g kd : Nat} {r : Option Nat} {cs : Array Value} {s : St} {Z Z' : Option Addr} {c c' : Nat}
theorem FinB.new (h : TwoB w cs W) (h1 : Two W g r Z s.n0 s.n1) (h2 : Two W g r Z' s.s0 s.s1) :
    FinB w g r cs W.heap.size s Z c Z' c' (W.alloc (.cells #[.int .i64 (s.room : Int), str s.sure, str s.rest, .slice Z 2 c, .slice Z' 2 c'] 27)) :=
  have b := (Below.refl W.heap.size W).alloc (Nat.le_refl _) (.cells #[.int .i64 (s.room : Int), str s.sure, str s.rest, .slice Z 2 c, .slice Z' 2 c'] 27)
  ⟨h.next b, lt_of_block h.2.1, blk_new _ _, h1.below b, h2.below b⟩
theorem kb_two {bs : List Nat} {N : Nat} {Wz w W : World} (h1 : Below N Wz w) (h2 : Below N Wz W) (hb : ∀ b ∈ bs, b < N) : KB bs w W := fun b hx => (h2.block b (hb b hx)).trans (h1.block b (hb b hx)).symm
theorem FinB.next {W' : World} (h : FinB w g r cs kd s Z c Z' c' W) (b : Below W.heap.size W W') : FinB w g r cs kd s Z c Z' c' W' := ⟨h.1.next b, h.2.1, blk_old b h.2.2.1, h.2.2.2.1.below b, h.2.2.2.2.below b⟩
theorem TwoB.setCell {j : Nat} (h : TwoB w cs W) (hk : w.heap.size + 2 ≤ kd) (u : Value) : TwoB w cs (W.setCell ⟨kd, j, none⟩ u) :=
  ⟨(Below.heap_setCell _ _ _ _ (show w.heap.size ≠ kd by omega)).trans h.1, (Below.heap_setCell _ _ _ _ (show w.heap.size + 1 ≠ kd by omega)).trans h.2.1, h.2.2.setCell (show w.heap.size ≤ kd by omega) _⟩
theorem FinB.put {cz : Array Value} (h : TwoB w cs W) (hk : w.heap.size + 2 ≤ kd) (hz : W.heap[kd]? = some (.cells cz 27 (0, 0))) (h5 : cz.size = 5) (hn : ∀ v ∈ cz, noU8 v = true) (h1 : Two W g r Z s.n0 s.n1) (h2 : Two W g r Z' s.s0 s.s1) :
    FinB w g r cs kd s Z c Z' c' (((((W.setCell ⟨kd, 0, none⟩ (.int .i64 (s.room : Int))).setCell ⟨kd, 1, none⟩ (str s.sure)).setCell ⟨kd, 2, none⟩ (str s.rest)).setCell ⟨kd, 3, none⟩ (.slice Z 2 c)).setCell ⟨kd, 4, none⟩ (.slice Z' 2 c')) := by
  have hb : Box kd 1 W (((((W.setCell ⟨kd, 0, none⟩ (.int .i64 (s.room : Int))).setCell ⟨kd, 1, none⟩ (str s.sure)).setCell ⟨kd, 2, none⟩ (str s.rest)).setCell ⟨kd, 3, none⟩ (.slice Z 2 c)).setCell ⟨kd, 4, none⟩ (.slice Z' 2 c')) :=
    (((((Box.refl _ _ _).setCell (by omega) (by omega) _).setCell (by omega) (by omega) _).setCell (by omega) (by omega) _).setCell (by omega) (by omega) _).setCell (by omega) (by omega) _
  have hN : ∀ k, kd ≤ k → k < kd + 1 → NoB W k := fun k h1 h2 => by
    obtain rfl : k = kd := by omega
    exact ⟨_, _, hz, hn, by decide⟩
  refine ⟨(((((h.setCell hk _).setCell hk _).setCell hk _).setCell hk _).setCell hk _), hk, ?_, h1.box hb hN, h2.box hb hN⟩
  rw [row_setCell (row_setCell (row_setCell (row_setCell (row_setCell hz))))]
  match cz, h5 with
  | ⟨[a, b, c, d, e]⟩, _ => rfl
theorem FinB.clear (h : FinB w g r cs kd s Z c Z' c' W) (hr : s.rest = []) : FinB w g r cs kd s.clear Z c Z' c' (W.setCell ⟨kd, 1, none⟩ (str [])) := by
  obtain ⟨h1, h2, h3, h4, h5⟩ := h
  have hN : NoB W kd := ⟨_, _, h3, by simp [noU8], by decide⟩
  refine ⟨h1.setCell h2 _, h2, ?_, two_setCell h4 hN _, two_setCell h5 hN _⟩
  rw [row_setCell h3, hr]
  rfl
end

theorem noB4 {w : World} {N : Nat} {a b : Array Value} {t1 t2 : TypeId} (q1 : w.heap[N]? = some (.cells a t1 (0, 0))) (q2 : w.heap[N + 1]? = some (.cells b t2 (0, 0)))
    (n1 : ∀ v ∈ a, noU8 v = true) (n2 : ∀ v ∈ b, noU8 v = true) (h1 : t1 ≠ 9 := by decide) (h2 : t2 ≠ 9 := by decide) : ∀ k, N ≤ k → k < N + 2 → NoB w k := by
  intro k hk1 hk2
  have : k = N ∨ k = N + 1 := by omega
  rcases this with rfl | rfl
  · exact ⟨_, _, q1, n1, h1⟩
  · exact ⟨_, _, q2, n2, h2⟩

set_option maxRecDepth 100000 in
set_option maxHeartbeats 2000000 in
theorem rlcheck_any {w : World} {g : Nat} {r : Option Nat} {x : LS} {v : Value} (b : List UInt8) (h : LRefAt w g r v x) (ho : x.ok) (hlen : b.length ≤ 100000) (hg : g < w.heap.size) (hr : ∀ k, r = some k → k < w.heap.size) :
    Calls Try.prog 77 #[v, .string ⟨b.toArray⟩] w (RetLE g r (x.check b).1 (x.check b).2 w) := by
  obtain ⟨A, c, A', c', rfl, h1, h2⟩ := h
  obtain ⟨o1, o2, o3⟩ := ho
  have o11 := o1.1
  have X0 := TwoB.start w (lc x A c A' c')
  have hbig : ¬ (1048576 < b.length) := by omega
  by_cases hg9 : x.gen = 4294967295
  · have hE : x.check b = (x, 4) := by unfold LS.check; rw [if_neg hbig, if_pos hg9]
    have hgb : ((x.gen : Int) == 4294967295) = true := by simp; omega
    clear hg9
    have Hh1 := Lib.hid h1; clear h1
    have Hh2 := Lib.hid h2; clear h2
    have Ho1 := Lib.hid o1; clear o1
    have HhE := Lib.hid hE; clear hE
    have HX0 := Lib.hid X0; clear X0
    go_enter Try.func77, Try.ntmps77
    go_wp2_with fail
    refine bodyPost_ret (v := .tuple #[.agg (lc x A c A' c'), .int .i64 4]) (by simp [results, Try.results77, go_sem]) rfl ?_
    rw [HhE.out]
    refine RetLE.mk A c A' c' ?_ (Hh1.out.below ?_) (Hh2.out.below ?_) rfl
    · repeat (first | (with_reducible exact (Below.refl _ _)) | ((with_reducible refine Below.setCell ?_ ?_ _); rotate_left; (· (simp <;> omega))) | ((with_reducible refine Below.alloc ?_ ?_ _); rotate_left; (· (simp <;> omega))) | (with_reducible refine Below.drew ?_))
    · repeat (first | (with_reducible exact (Below.refl _ _)) | ((with_reducible refine Below.setCell ?_ ?_ _); rotate_left; (· (simp <;> omega))) | ((with_reducible refine Below.alloc ?_ ?_ _); rotate_left; (· (simp <;> omega))) | (with_reducible refine Below.drew ?_))
    · repeat (first | (with_reducible exact (Below.refl _ _)) | ((with_reducible refine Below.setCell ?_ ?_ _); rotate_left; (· (simp <;> omega))) | ((with_reducible refine Below.alloc ?_ ?_ _); rotate_left; (· (simp <;> omega))) | (with_reducible refine Below.drew ?_))
  · have hgb : ((x.gen : Int) == 4294967295) = false := by simp; omega
    have hg1 : x.gen + 1 < 4294967296 := by omega
    have hE : x.check b = ({ s := (x.s.write ((x.gen + 1) % 2 : Nat) (frameL (x.gen + 1) b)).1.sync.clear, gen := x.gen + 1, kept := x.kept }, 0) := by unfold LS.check; rw [if_neg hbig, if_neg hg9]
    have hR : ∀ W, Below w.heap.size w W → RefAt W g r (.agg #[.int .i64 (x.s.room : Int), str x.s.sure, str x.s.rest, .slice A 2 c, .slice A' 2 c']) x.s := fun W b => ⟨A, c, A', c', rfl, h1.below b, h2.below b⟩
    have hF : ∀ W, Calls Try.prog 37 #[.int .u32 ((x.gen : Int) + 1), .string ⟨b.toArray⟩] W (fun e w' => e = .returned (.string ⟨(frameL (x.gen + 1) b).toArray⟩) ∧ Below W.heap.size W w') := fun W => by
      have := rframe_any (x.gen + 1) b W hg1 (by omega)
      rwa [show ((x.gen + 1 : Nat) : Int) = (x.gen : Int) + 1 by omega] at this
    have hok3 := D.write_ok o1 ((x.gen + 1) % 2 : Nat) (frameL (x.gen + 1) b)
    have hgm : ((x.gen : Int) + 1).tmod 2 = ((((x.gen + 1) % 2 : Nat)) : Int) := by
      rw [Int.tmod_eq_emod_of_nonneg (by omega)]
      omega
    have hw0 : (x.s.write ((x.gen + 1) % 2 : Nat) (frameL (x.gen + 1) b)).2 = 0 := by
      have h01 : (x.gen + 1) % 2 = 0 ∨ (x.gen + 1) % 2 = 1 := by omega
      rcases h01 with e | e <;> rw [e] <;> simp [St.write]
    clear hg9
    have Hh1 := Lib.hid h1; clear h1
    have Hh2 := Lib.hid h2; clear h2
    have Ho1 := Lib.hid o1; clear o1
    have HhE := Lib.hid hE; clear hE
    have HX0 := Lib.hid X0; clear X0
    have HhR := Lib.hid hR; clear hR
    have HhF := Lib.hid hF; clear hF
    have Hhgm := Lib.hid hgm; clear hgm
    have Hhok3 := Lib.hid hok3; clear hok3
    have Hhw0 := Lib.hid hw0; clear hw0
    go_enter Try.func77, Try.ntmps77
    go_wp2_with fail
    have X1 := TwoB.start w #[.int .i64 (x.s.room : Int), str x.s.sure, str x.s.rest, .slice A 2 c, .slice A' 2 c', .int .u32 ((x.gen : Int) + 1), .int .i64 (x.kept : Int)]
    have HX1 := Lib.hid X1; clear X1
    clear HX0
    generalize ((w.alloc (.cells #[.int .i64 (x.s.room : Int), str x.s.sure, str x.s.rest, .slice A 2 c, .slice A' 2 c', .int .u32 ((x.gen : Int) + 1), .int .i64 (x.kept : Int)] 82)).alloc (.cells #[.int .i64 0, str [], str [], .slice none 0 0, .slice none 0 0, .int .u32 0, .int .i64 0] 82)) = W1 at *
    have s1 := lt_of_block HX1.out.2.1
    have hgm := Hhgm.out
    have hwm : IntKind.i64.wrap ((((x.gen + 1) % 2 : Nat)) : Int) = ((((x.gen + 1) % 2 : Nat)) : Int) := IntWalk.i64_in _ (by omega)
    have hwu : IntKind.u32.wrap ((((x.gen + 1) % 2 : Nat)) : Int) = ((((x.gen + 1) % 2 : Nat)) : Int) := IntWalk.u32_in _ (by omega)
    generalize ((x.gen + 1) % 2 : Nat) = m at *
    clear Hhgm
    refine wp_region_plan [w.heap.size] (.read 0 (.read 1 (.read 2 (.read 3 (.read 4 (.read 5 (.read 6 (.read 7 (.read 8 (.two 9 14 (.two 10 14 (.read 11 (.read 12 (.read 13 (.call 14 (.call 15 (.read 16 .done)))))) (.call 10 (.read 11 (.read 12 (.read 13 (.call 15 (.read 16 .done))))))) (.call 9 (.call 10 (.read 11 (.read 12 (.read 13 (.call 15 (.read 16 .done))))))))))))))))) (by kernel_rfl) (by kernel_rfl) (fun _ _ d _ _ h => by cases d <;> exact h) ?_
    refine pwith (fun W hW => (cells7 ((hW _ (by simp)).trans HX1.out.1)).1) (fun q => ?_)
    repeat (first | (refine sreadxP rfl rfl ?_; apply Exists.intro; apply And.intro; (· (intro W hW; first | (go_simp; done) | (go_simp; with_reducible rfl) | (go_simp; rw [if_neg (by omega)]; done) | (go_simp; rw [if_neg (by omega)]; with_reducible rfl))); simp only [Act.put, List.setIfInBounds_toArray, List.set_cons_zero, List.set_cons_succ]) | (refine pskip rfl rfl ?_; simp only [Act.put, List.setIfInBounds_toArray, List.set_cons_zero, List.set_cons_succ]))
    clear q
    refine ptwo rfl rfl rfl rfl ?_ ?_
    · intro K hK
      go_simp
      refine (HhF.out _).mono ?_; rintro e w2 ⟨rfl, b2⟩
      go_wp2_with fail
      refine hK.out _ _ (by exact KB.of_below b2 (by simp; omega)) ?_
      clear hK K
      try simp only [Act.put, List.setIfInBounds_toArray, List.set_cons_zero, List.set_cons_succ]
      have X2 := Lib.hid (HX1.out.next ((Below.refl _ _).drew.trans b2))
      clear b2
      refine ptwo rfl rfl rfl rfl ?_ ?_
      · intro K hK
        go_simp
        refine (rwrite_any _ _ (HhR.out _ X2.out.2.2) (by have := X2.out.2.2.size; omega) (fun k hk => by have := hr k hk; have := X2.out.2.2.size; omega)).mono ?_; rintro e w3 ⟨v3, rfl, x3, b3⟩
        go_wp2_with fail
        refine hK.out _ _ (by exact KB.of_below b3 (by simp; exact lt_of_block X2.out.1)) ?_
        clear hK K
        try simp only [Act.put, List.setIfInBounds_toArray, List.set_cons_zero, List.set_cons_succ]
        rw [show (x.s.write (m : Int) (frameL (x.gen + 1) b)).2 = 0 from Hhw0.out]
        obtain ⟨s3, hs3⟩ : ∃ s3, (x.s.write (m : Int) (frameL (x.gen + 1) b)).1 = s3 := ⟨_, rfl⟩
        rw [hs3] at x3 HhE Hhok3
        clear hs3
        obtain ⟨A3, c3, A3', c3', rfl, y1, y2⟩ := x3
        have X3 := Lib.hid (X2.out.next b3)
        clear b3 X2
        have FB := Lib.hid (FinB.new (c := c3) (c' := c3') X3.out y1 y2)
        have s3' := lt_of_block X3.out.2.1
        clear y1 y2
        repeat (first | (refine sreadxP rfl rfl ?_; apply Exists.intro; apply And.intro; (· (intro W hW; first | (go_simp; done) | (go_simp; with_reducible rfl) | (go_simp; rw [if_neg (by omega)]; done) | (go_simp; rw [if_neg (by omega)]; with_reducible rfl))); simp only [Act.put, List.setIfInBounds_toArray, List.set_cons_zero, List.set_cons_succ]) | (refine pskip rfl rfl ?_; simp only [Act.put, List.setIfInBounds_toArray, List.set_cons_zero, List.set_cons_succ]))
        refine pcall rfl rfl (fun K hK => ?_)
        go_simp
        refine hK.out _ _ (KB.of_below ((Below.refl _ _).alloc (Nat.le_refl _) _) (by simp; omega)) ?_
        clear hK K
        try simp only [Act.put, List.setIfInBounds_toArray, List.set_cons_zero, List.set_cons_succ]
        refine pcall rfl rfl (fun K hK => ?_)
        go_simp
        refine hK.out _ _ (kb_two (N := w3.heap.size) (Wz := w3) ((Below.refl _ _).alloc (Nat.le_refl _) _) ((Below.refl _ _).alloc (Nat.le_refl _) _) (by simp; omega)) ?_
        clear hK K
        try simp only [Act.put, List.setIfInBounds_toArray, List.set_cons_zero, List.set_cons_succ]
        repeat (first | (refine sreadxP rfl rfl ?_; apply Exists.intro; apply And.intro; (· (intro W hW; first | (go_simp; done) | (go_simp; with_reducible rfl) | (go_simp; rw [if_neg (by omega)]; done) | (go_simp; rw [if_neg (by omega)]; with_reducible rfl))); simp only [Act.put, List.setIfInBounds_toArray, List.set_cons_zero, List.set_cons_succ]) | (refine pskip rfl rfl ?_; simp only [Act.put, List.setIfInBounds_toArray, List.set_cons_zero, List.set_cons_succ]))
        refine pdone ?_
        obtain ⟨kd, hkd⟩ : ∃ kd, w3.heap.size = kd := ⟨_, rfl⟩
        obtain ⟨w4, hw4⟩ : ∃ w4, (w3.alloc (.cells #[.int .i64 (s3.room : Int), str s3.sure, str s3.rest, .slice A3 2 c3, .slice A3' 2 c3'] 27)) = w4 := ⟨_, rfl⟩
        have hl4 : kd < w4.heap.size := by rw [← hw4, ← hkd]; simp
        rw [hw4, hkd] at FB
        rw [hw4, hkd]
        clear hw4 hkd s3' X3
        have FX := Lib.hid FB.out.1
        have hk2 := FB.out.2.1
        have F2 := Lib.hid FB.out.2.2.1
        have F3 := Lib.hid FB.out.2.2.2
        have RS := Lib.hid (show RefAt w4 g r (.agg #[.int .i64 (s3.room : Int), str s3.sure, str s3.rest, .slice A3 2 c3, .slice A3' 2 c3']) s3 from ⟨_, _, _, _, rfl, F3.out.1, F3.out.2⟩)
        obtain ⟨⟨d0, d1, d2, d3, d4⟩, e0, e1, e2, e3, e4⟩ := cells5 F2.out
        clear FB
        go_wp2_with fail
        refine (rsync_any RS.out Hhok3.out).mono ?_; rintro e w5 ⟨v5, rfl, x5, b5⟩
        obtain ⟨A5, c5, A5', c5', rfl, y1, y2⟩ := x5
        have X5 := Lib.hid (FX.out.next b5)
        have K5 := Lib.hid (blk_old b5 F2.out)
        clear d0 d1 d2 d3 d4 e0 e1 e2 e3 e4 RS F2 F3 b5 FX
        obtain ⟨⟨d0, d1, d2, d3, d4⟩, e0, e1, e2, e3, e4⟩ := cells5 K5.out
        have FP := FinB.put (s := s3.sync) (c := c5) (c' := c5') X5.out hk2 K5.out rfl (by simp [noU8]) y1 y2
        have FC := FinB.clear FP rfl
        clear FP K5 X5 y1 y2
        have HFC := Lib.hid FC; clear FC
        go_upto_region 9 with fail
        obtain ⟨w6, hw6⟩ : ∃ w6, ((((((w5.setCell ⟨kd, 0, none⟩ (.int .i64 (s3.sync.room : Int))).setCell ⟨kd, 1, none⟩ (str s3.sync.sure)).setCell ⟨kd, 2, none⟩ (str s3.sync.rest)).setCell ⟨kd, 3, none⟩ (.slice A5 2 c5)).setCell ⟨kd, 4, none⟩ (.slice A5' 2 c5')).setCell ⟨kd, 1, none⟩ (str [])) = w6 := ⟨_, rfl⟩
        rw [hw6] at HFC ⊢
        clear hw6 d0 d1 d2 d3 d4 e0 e1 e2 e3 e4
        generalize hs6 : s3.sync.clear = s6 at HFC HhE
        have X5 := Lib.hid HFC.out.1
        have K5 := Lib.hid HFC.out.2.2.1
        obtain ⟨⟨d0, d1, d2, d3, d4⟩, e0, e1, e2, e3, e4⟩ := cells5 K5.out
        obtain ⟨⟨a0, a1, a2, a3, a4, a5, a6⟩, z0, z1, z2, z3, z4, z5, z6⟩ := cells7 X5.out.1
        obtain ⟨⟨p0, p1, p2, p3, p4, p5, p6⟩, q0, q1, q2, q3, q4, q5, q6⟩ := cells7 X5.out.2.1
        go_wp2_with fail
        refine bodyPost_ret (v := .tuple #[.agg #[.int .i64 (s6.room : Int), str s6.sure, str s6.rest, .slice A5 2 c5, .slice A5' 2 c5', .int .u32 ((x.gen : Int) + 1), .int .i64 (x.kept : Int)], .int .i64 0]) (by simp [results, Try.results77, go_sem, p0, p1, p2, p3, p4, p5, p6]) rfl ?_
        rw [HhE.out]
        have bb := X5.out.2.2
        have hN := noB4 X5.out.1 X5.out.2.1 (by simp [noU8]) (by simp [noU8])
        have K3 : Keep3 g r A5 s6.n0 s6.n1 A5' s6.s0 s6.s1 kd w.heap.size (w.heap.size + 1) w6 := ⟨HFC.out.2.2.2.1, HFC.out.2.2.2.2, ⟨_, _, K5.out, by simp [noU8], by decide⟩, hN _ (by omega) (by omega), hN _ (by omega) (by omega)⟩
        refine RetLE.mk (x := { s := s6, gen := x.gen + 1, kept := x.kept }) A5 c5 A5' c5' ?_ (Keep3.t1 (A' := A5') (a' := s6.s0) (b' := s6.s1) (k1 := kd) (k2 := w.heap.size) (k3 := w.heap.size + 1) ?_) (Keep3.t2 (A := A5) (a := s6.n0) (b := s6.n1) (k1 := kd) (k2 := w.heap.size) (k3 := w.heap.size + 1) ?_) (by simp)
        · repeat (first | (with_reducible exact bb) | ((with_reducible refine Below.setCell ?_ ?_ _); rotate_left; (· (simp <;> omega))) | ((with_reducible refine Below.alloc ?_ ?_ _); rotate_left; (· (simp <;> omega))) | (with_reducible refine Below.drew ?_))
        · repeat (first | (with_reducible exact K3) | ((with_reducible refine Keep3.setCell ?_ rfl ?_); rotate_left; (· simp)))
        · repeat (first | (with_reducible exact K3) | ((with_reducible refine Keep3.setCell ?_ rfl ?_); rotate_left; (· simp)))
      · have hsA := lt_of_block X2.out.1
        intro K hK
        go_simp
        refine hK.out _ _ (kb_two (N := w2.heap.size) (Wz := w2) (by first | exact Below.refl _ _ | exact (Below.refl _ _).drew) (by first | exact (Below.refl _ _).alloc (Nat.le_refl _) _ | exact ((Below.refl _ _).alloc (Nat.le_refl _) _).drew) (by simp; omega)) ?_
        clear hK K
        try simp only [Act.put, List.setIfInBounds_toArray, List.set_cons_zero, List.set_cons_succ]
        obtain ⟨kd, hkd⟩ : ∃ kd, w2.heap.size = kd := ⟨_, rfl⟩
        have XA := Lib.hid (X2.out.next ((Below.refl _ _).alloc (Nat.le_refl _) (.cells #[.int .i64 0, str [], str [], .slice none 0 0, .slice none 0 0] 27)))
        have KZ := Lib.hid (blk_new w2 (.cells #[.int .i64 0, str [], str [], .slice none 0 0, .slice none 0 0] 27))
        have hk2 : w.heap.size + 2 ≤ kd := by rw [← hkd]; exact lt_of_block X2.out.2.1
        rw [hkd] at KZ ⊢
        obtain ⟨wA, hwA⟩ : ∃ wA, (w2.alloc (.cells #[.int .i64 0, str [], str [], .slice none 0 0, .slice none 0 0] 27)) = wA := ⟨_, rfl⟩
        rw [hwA] at KZ XA ⊢
        clear hwA hkd X2
        refine pcall rfl rfl (fun K hK => ?_)
        go_simp
        refine (rwrite_any _ _ (HhR.out _ XA.out.2.2) (by have := XA.out.2.2.size; omega) (fun k hk => by have := hr k hk; have := XA.out.2.2.size; omega)).mono ?_; rintro e w3 ⟨v3, rfl, x3, b3⟩
        go_wp2_with fail
        refine hK.out _ _ (by exact KB.of_below b3 (by simp; exact lt_of_block XA.out.1)) ?_
        clear hK K
        try simp only [Act.put, List.setIfInBounds_toArray, List.set_cons_zero, List.set_cons_succ]
        rw [show (x.s.write (m : Int) (frameL (x.gen + 1) b)).2 = 0 from Hhw0.out]
        obtain ⟨s3, hs3⟩ : ∃ s3, (x.s.write (m : Int) (frameL (x.gen + 1) b)).1 = s3 := ⟨_, rfl⟩
        rw [hs3] at x3 HhE Hhok3
        clear hs3
        obtain ⟨A3, c3, A3', c3', rfl, y1, y2⟩ := x3
        have KZ := Lib.hid (blk_old b3 KZ.out)
        have X3 := Lib.hid (XA.out.next b3)
        obtain ⟨⟨d0, d1, d2, d3, d4⟩, e0, e1, e2, e3, e4⟩ := cells5 KZ.out
        have hs3 := lt_of_block X3.out.2.1
        have FP := Lib.hid (FinB.put (c := c3) (c' := c3') X3.out hk2 KZ.out rfl (by simp [noU8]) y1 y2)
        clear b3 y1 y2
        repeat (first | (refine sreadxP rfl rfl ?_; apply Exists.intro; apply And.intro; (· (intro W hW; first | (go_simp; done) | (go_simp; with_reducible rfl) | (go_simp; rw [if_neg (by omega)]; done) | (go_simp; rw [if_neg (by omega)]; with_reducible rfl))); simp only [Act.put, List.setIfInBounds_toArray, List.set_cons_zero, List.set_cons_succ]) | (refine pskip rfl rfl ?_; simp only [Act.put, List.setIfInBounds_toArray, List.set_cons_zero, List.set_cons_succ]))
        refine pcall rfl rfl (fun K hK => ?_)
        go_simp
        refine hK.out _ _ (fun k hk => ?_) ?_
        · simp at hk
          subst hk
          have hne : w.heap.size ≠ kd := by omega
          exact (Below.heap_setCell _ _ _ _ hne).trans ((Below.heap_setCell _ _ _ _ hne).trans ((Below.heap_setCell _ _ _ _ hne).trans ((Below.heap_setCell _ _ _ _ hne).trans (Below.heap_setCell _ _ _ _ hne))))
        clear hK K
        try simp only [Act.put, List.setIfInBounds_toArray, List.set_cons_zero, List.set_cons_succ]
        repeat (first | (refine sreadxP rfl rfl ?_; apply Exists.intro; apply And.intro; (· (intro W hW; first | (go_simp; done) | (go_simp; with_reducible rfl) | (go_simp; rw [if_neg (by omega)]; done) | (go_simp; rw [if_neg (by omega)]; with_reducible rfl))); simp only [Act.put, List.setIfInBounds_toArray, List.set_cons_zero, List.set_cons_succ]) | (refine pskip rfl rfl ?_; simp only [Act.put, List.setIfInBounds_toArray, List.set_cons_zero, List.set_cons_succ]))
        refine pdone ?_
        have hl3 := lt_of_block KZ.out
        clear d0 d1 d2 d3 d4 e0 e1 e2 e3 e4
        obtain ⟨w4, hw4⟩ : ∃ w4, (((((w3.setCell ⟨kd, 0, none⟩ (.int .i64 (s3.room : Int))).setCell ⟨kd, 1, none⟩ (str s3.sure)).setCell ⟨kd, 2, none⟩ (str s3.rest)).setCell ⟨kd, 3, none⟩ (.slice A3 2 c3)).setCell ⟨kd, 4, none⟩ (.slice A3' 2 c3')) = w4 := ⟨_, rfl⟩
        have hl4 : kd < w4.heap.size := by rw [← hw4]; simpa using hl3
        have FB := Lib.hid FP.out
        rw [hw4] at FB
        rw [hw4]
        clear hw4 FP X3 KZ hk2 XA
        have FX := Lib.hid FB.out.1
        have hk2 := FB.out.2.1
        have F2 := Lib.hid FB.out.2.2.1
        have F3 := Lib.hid FB.out.2.2.2
        have RS := Lib.hid (show RefAt w4 g r (.agg #[.int .i64 (s3.room : Int), str s3.sure, str s3.rest, .slice A3 2 c3, .slice A3' 2 c3']) s3 from ⟨_, _, _, _, rfl, F3.out.1, F3.out.2⟩)
        obtain ⟨⟨d0, d1, d2, d3, d4⟩, e0, e1, e2, e3, e4⟩ := cells5 F2.out
        clear FB
        go_wp2_with fail
        refine (rsync_any RS.out Hhok3.out).mono ?_; rintro e w5 ⟨v5, rfl, x5, b5⟩
        obtain ⟨A5, c5, A5', c5', rfl, y1, y2⟩ := x5
        have X5 := Lib.hid (FX.out.next b5)
        have K5 := Lib.hid (blk_old b5 F2.out)
        clear d0 d1 d2 d3 d4 e0 e1 e2 e3 e4 RS F2 F3 b5 FX
        obtain ⟨⟨d0, d1, d2, d3, d4⟩, e0, e1, e2, e3, e4⟩ := cells5 K5.out
        have FP := FinB.put (s := s3.sync) (c := c5) (c' := c5') X5.out hk2 K5.out rfl (by simp [noU8]) y1 y2
        have FC := FinB.clear FP rfl
        clear FP K5 X5 y1 y2
        have HFC := Lib.hid FC; clear FC
        go_upto_region 9 with fail
        obtain ⟨w6, hw6⟩ : ∃ w6, ((((((w5.setCell ⟨kd, 0, none⟩ (.int .i64 (s3.sync.room : Int))).setCell ⟨kd, 1, none⟩ (str s3.sync.sure)).setCell ⟨kd, 2, none⟩ (str s3.sync.rest)).setCell ⟨kd, 3, none⟩ (.slice A5 2 c5)).setCell ⟨kd, 4, none⟩ (.slice A5' 2 c5')).setCell ⟨kd, 1, none⟩ (str [])) = w6 := ⟨_, rfl⟩
        rw [hw6] at HFC ⊢
        clear hw6 d0 d1 d2 d3 d4 e0 e1 e2 e3 e4
        generalize hs6 : s3.sync.clear = s6 at HFC HhE
        have X5 := Lib.hid HFC.out.1
        have K5 := Lib.hid HFC.out.2.2.1
        obtain ⟨⟨d0, d1, d2, d3, d4⟩, e0, e1, e2, e3, e4⟩ := cells5 K5.out
        obtain ⟨⟨a0, a1, a2, a3, a4, a5, a6⟩, z0, z1, z2, z3, z4, z5, z6⟩ := cells7 X5.out.1
        obtain ⟨⟨p0, p1, p2, p3, p4, p5, p6⟩, q0, q1, q2, q3, q4, q5, q6⟩ := cells7 X5.out.2.1
        go_wp2_with fail
        refine bodyPost_ret (v := .tuple #[.agg #[.int .i64 (s6.room : Int), str s6.sure, str s6.rest, .slice A5 2 c5, .slice A5' 2 c5', .int .u32 ((x.gen : Int) + 1), .int .i64 (x.kept : Int)], .int .i64 0]) (by simp [results, Try.results77, go_sem, p0, p1, p2, p3, p4, p5, p6]) rfl ?_
        rw [HhE.out]
        have bb := X5.out.2.2
        have hN := noB4 X5.out.1 X5.out.2.1 (by simp [noU8]) (by simp [noU8])
        have K3 : Keep3 g r A5 s6.n0 s6.n1 A5' s6.s0 s6.s1 kd w.heap.size (w.heap.size + 1) w6 := ⟨HFC.out.2.2.2.1, HFC.out.2.2.2.2, ⟨_, _, K5.out, by simp [noU8], by decide⟩, hN _ (by omega) (by omega), hN _ (by omega) (by omega)⟩
        refine RetLE.mk (x := { s := s6, gen := x.gen + 1, kept := x.kept }) A5 c5 A5' c5' ?_ (Keep3.t1 (A' := A5') (a' := s6.s0) (b' := s6.s1) (k1 := kd) (k2 := w.heap.size) (k3 := w.heap.size + 1) ?_) (Keep3.t2 (A := A5) (a := s6.n0) (b := s6.n1) (k1 := kd) (k2 := w.heap.size) (k3 := w.heap.size + 1) ?_) (by simp)
        · repeat (first | (with_reducible exact bb) | ((with_reducible refine Below.setCell ?_ ?_ _); rotate_left; (· (simp <;> omega))) | ((with_reducible refine Below.alloc ?_ ?_ _); rotate_left; (· (simp <;> omega))) | (with_reducible refine Below.drew ?_))
        · repeat (first | (with_reducible exact K3) | ((with_reducible refine Keep3.setCell ?_ rfl ?_); rotate_left; (· simp)))
        · repeat (first | (with_reducible exact K3) | ((with_reducible refine Keep3.setCell ?_ rfl ?_); rotate_left; (· simp)))
    · have hsA := lt_of_block HX1.out.1
      intro K hK
      go_simp
      refine hK.out _ _ (kb_two (N := W1.heap.size) (Wz := W1) (by first | exact Below.refl _ _ | exact (Below.refl _ _).drew) (by first | exact (Below.refl _ _).alloc (Nat.le_refl _) _ | exact ((Below.refl _ _).alloc (Nat.le_refl _) _).drew) (by simp; omega)) ?_
      clear hK K
      try simp only [Act.put, List.setIfInBounds_toArray, List.set_cons_zero, List.set_cons_succ]
      obtain ⟨kd, hkd⟩ : ∃ kd, W1.heap.size = kd := ⟨_, rfl⟩
      have XA := Lib.hid (HX1.out.next ((Below.refl _ _).alloc (Nat.le_refl _) (.cells #[.int .i64 0, str [], str [], .slice none 0 0, .slice none 0 0] 27)))
      have KZ := Lib.hid (blk_new W1 (.cells #[.int .i64 0, str [], str [], .slice none 0 0, .slice none 0 0] 27))
      have hk2 : w.heap.size + 2 ≤ kd := by rw [← hkd]; exact lt_of_block HX1.out.2.1
      rw [hkd] at KZ ⊢
      obtain ⟨wA, hwA⟩ : ∃ wA, (W1.alloc (.cells #[.int .i64 0, str [], str [], .slice none 0 0, .slice none 0 0] 27)).drew = wA := ⟨_, rfl⟩
      have KZ := Lib.hid (show (W1.alloc (.cells #[.int .i64 0, str [], str [], .slice none 0 0, .slice none 0 0] 27)).drew.heap[kd]? = _ from KZ.out)
      have XA := Lib.hid (show TwoB w _ (W1.alloc (.cells #[.int .i64 0, str [], str [], .slice none 0 0, .slice none 0 0] 27)).drew from XA.out.next (Below.refl _ _).drew)
      rw [hwA] at KZ XA ⊢
      clear hwA hkd HX1
      refine pcall rfl rfl (fun K hK => ?_)
      go_simp
      refine (HhF.out _).mono ?_; rintro e w2 ⟨rfl, b2⟩
      go_wp2_with fail
      refine hK.out _ _ (by exact KB.of_below b2 (by simp; exact lt_of_block XA.out.1)) ?_
      clear hK K
      try simp only [Act.put, List.setIfInBounds_toArray, List.set_cons_zero, List.set_cons_succ]
      have XA := Lib.hid (XA.out.next b2)
      have KZ := Lib.hid (blk_old b2 KZ.out)
      clear b2
      refine pcall rfl rfl (fun K hK => ?_)
      go_simp
      refine (rwrite_any _ _ (HhR.out _ XA.out.2.2) (by have := XA.out.2.2.size; omega) (fun k hk => by have := hr k hk; have := XA.out.2.2.size; omega)).mono ?_; rintro e w3 ⟨v3, rfl, x3, b3⟩
      go_wp2_with fail
      refine hK.out _ _ (by exact KB.of_below b3 (by simp; exact lt_of_block XA.out.1)) ?_
      clear hK K
      try simp only [Act.put, List.setIfInBounds_toArray, List.set_cons_zero, List.set_cons_succ]
      rw [show (x.s.write (m : Int) (frameL (x.gen + 1) b)).2 = 0 from Hhw0.out]
      obtain ⟨s3, hs3⟩ : ∃ s3, (x.s.write (m : Int) (frameL (x.gen + 1) b)).1 = s3 := ⟨_, rfl⟩
      rw [hs3] at x3 HhE Hhok3
      clear hs3
      obtain ⟨A3, c3, A3', c3', rfl, y1, y2⟩ := x3
      have KZ := Lib.hid (blk_old b3 KZ.out)
      have X3 := Lib.hid (XA.out.next b3)
      obtain ⟨⟨d0, d1, d2, d3, d4⟩, e0, e1, e2, e3, e4⟩ := cells5 KZ.out
      have hs3 := lt_of_block X3.out.2.1
      have FP := Lib.hid (FinB.put (c := c3) (c' := c3') X3.out hk2 KZ.out rfl (by simp [noU8]) y1 y2)
      clear b3 y1 y2
      repeat (first | (refine sreadxP rfl rfl ?_; apply Exists.intro; apply And.intro; (· (intro W hW; first | (go_simp; done) | (go_simp; with_reducible rfl) | (go_simp; rw [if_neg (by omega)]; done) | (go_simp; rw [if_neg (by omega)]; with_reducible rfl))); simp only [Act.put, List.setIfInBounds_toArray, List.set_cons_zero, List.set_cons_succ]) | (refine pskip rfl rfl ?_; simp only [Act.put, List.setIfInBounds_toArray, List.set_cons_zero, List.set_cons_succ]))
      refine pcall rfl rfl (fun K hK => ?_)
      go_simp
      refine hK.out _ _ (fun k hk => ?_) ?_
      · simp at hk
        subst hk
        have hne : w.heap.size ≠ kd := by omega
        exact (Below.heap_setCell _ _ _ _ hne).trans ((Below.heap_setCell _ _ _ _ hne).trans ((Below.heap_setCell _ _ _ _ hne).trans ((Below.heap_setCell _ _ _ _ hne).trans (Below.heap_setCell _ _ _ _ hne))))
      clear hK K
      try simp only [Act.put, List.setIfInBounds_toArray, List.set_cons_zero, List.set_cons_succ]
      repeat (first | (refine sreadxP rfl rfl ?_; apply Exists.intro; apply And.intro; (· (intro W hW; first | (go_simp; done) | (go_simp; with_reducible rfl) | (go_simp; rw [if_neg (by omega)]; done) | (go_simp; rw [if_neg (by omega)]; with_reducible rfl))); simp only [Act.put, List.setIfInBounds_toArray, List.set_cons_zero, List.set_cons_succ]) | (refine pskip rfl rfl ?_; simp only [Act.put, List.setIfInBounds_toArray, List.set_cons_zero, List.set_cons_succ]))
      refine pdone ?_
      have hl3 := lt_of_block KZ.out
      clear d0 d1 d2 d3 d4 e0 e1 e2 e3 e4
      obtain ⟨w4, hw4⟩ : ∃ w4, (((((w3.setCell ⟨kd, 0, none⟩ (.int .i64 (s3.room : Int))).setCell ⟨kd, 1, none⟩ (str s3.sure)).setCell ⟨kd, 2, none⟩ (str s3.rest)).setCell ⟨kd, 3, none⟩ (.slice A3 2 c3)).setCell ⟨kd, 4, none⟩ (.slice A3' 2 c3')) = w4 := ⟨_, rfl⟩
      have hl4 : kd < w4.heap.size := by rw [← hw4]; simpa using hl3
      have FB := Lib.hid FP.out
      rw [hw4] at FB
      rw [hw4]
      clear hw4 FP X3 KZ hk2 XA
      have FX := Lib.hid FB.out.1
      have hk2 := FB.out.2.1
      have F2 := Lib.hid FB.out.2.2.1
      have F3 := Lib.hid FB.out.2.2.2
      have RS := Lib.hid (show RefAt w4 g r (.agg #[.int .i64 (s3.room : Int), str s3.sure, str s3.rest, .slice A3 2 c3, .slice A3' 2 c3']) s3 from ⟨_, _, _, _, rfl, F3.out.1, F3.out.2⟩)
      obtain ⟨⟨d0, d1, d2, d3, d4⟩, e0, e1, e2, e3, e4⟩ := cells5 F2.out
      clear FB
      go_wp2_with fail
      refine (rsync_any RS.out Hhok3.out).mono ?_; rintro e w5 ⟨v5, rfl, x5, b5⟩
      obtain ⟨A5, c5, A5', c5', rfl, y1, y2⟩ := x5
      have X5 := Lib.hid (FX.out.next b5)
      have K5 := Lib.hid (blk_old b5 F2.out)
      clear d0 d1 d2 d3 d4 e0 e1 e2 e3 e4 RS F2 F3 b5 FX
      obtain ⟨⟨d0, d1, d2, d3, d4⟩, e0, e1, e2, e3, e4⟩ := cells5 K5.out
      have FP := FinB.put (s := s3.sync) (c := c5) (c' := c5') X5.out hk2 K5.out rfl (by simp [noU8]) y1 y2
      have FC := FinB.clear FP rfl
      clear FP K5 X5 y1 y2
      have HFC := Lib.hid FC; clear FC
      go_upto_region 9 with fail
      obtain ⟨w6, hw6⟩ : ∃ w6, ((((((w5.setCell ⟨kd, 0, none⟩ (.int .i64 (s3.sync.room : Int))).setCell ⟨kd, 1, none⟩ (str s3.sync.sure)).setCell ⟨kd, 2, none⟩ (str s3.sync.rest)).setCell ⟨kd, 3, none⟩ (.slice A5 2 c5)).setCell ⟨kd, 4, none⟩ (.slice A5' 2 c5')).setCell ⟨kd, 1, none⟩ (str [])) = w6 := ⟨_, rfl⟩
      rw [hw6] at HFC ⊢
      clear hw6 d0 d1 d2 d3 d4 e0 e1 e2 e3 e4
      generalize hs6 : s3.sync.clear = s6 at HFC HhE
      have X5 := Lib.hid HFC.out.1
      have K5 := Lib.hid HFC.out.2.2.1
      obtain ⟨⟨d0, d1, d2, d3, d4⟩, e0, e1, e2, e3, e4⟩ := cells5 K5.out
      obtain ⟨⟨a0, a1, a2, a3, a4, a5, a6⟩, z0, z1, z2, z3, z4, z5, z6⟩ := cells7 X5.out.1
      obtain ⟨⟨p0, p1, p2, p3, p4, p5, p6⟩, q0, q1, q2, q3, q4, q5, q6⟩ := cells7 X5.out.2.1
      go_wp2_with fail
      refine bodyPost_ret (v := .tuple #[.agg #[.int .i64 (s6.room : Int), str s6.sure, str s6.rest, .slice A5 2 c5, .slice A5' 2 c5', .int .u32 ((x.gen : Int) + 1), .int .i64 (x.kept : Int)], .int .i64 0]) (by simp [results, Try.results77, go_sem, p0, p1, p2, p3, p4, p5, p6]) rfl ?_
      rw [HhE.out]
      have bb := X5.out.2.2
      have hN := noB4 X5.out.1 X5.out.2.1 (by simp [noU8]) (by simp [noU8])
      have K3 : Keep3 g r A5 s6.n0 s6.n1 A5' s6.s0 s6.s1 kd w.heap.size (w.heap.size + 1) w6 := ⟨HFC.out.2.2.2.1, HFC.out.2.2.2.2, ⟨_, _, K5.out, by simp [noU8], by decide⟩, hN _ (by omega) (by omega), hN _ (by omega) (by omega)⟩
      refine RetLE.mk (x := { s := s6, gen := x.gen + 1, kept := x.kept }) A5 c5 A5' c5' ?_ (Keep3.t1 (A' := A5') (a' := s6.s0) (b' := s6.s1) (k1 := kd) (k2 := w.heap.size) (k3 := w.heap.size + 1) ?_) (Keep3.t2 (A := A5) (a := s6.n0) (b := s6.n1) (k1 := kd) (k2 := w.heap.size) (k3 := w.heap.size + 1) ?_) (by simp)
      · repeat (first | (with_reducible exact bb) | ((with_reducible refine Below.setCell ?_ ?_ _); rotate_left; (· (simp <;> omega))) | ((with_reducible refine Below.alloc ?_ ?_ _); rotate_left; (· (simp <;> omega))) | (with_reducible refine Below.drew ?_))
      · repeat (first | (with_reducible exact K3) | ((with_reducible refine Keep3.setCell ?_ rfl ?_); rotate_left; (· simp)))
      · repeat (first | (with_reducible exact K3) | ((with_reducible refine Keep3.setCell ?_ rfl ?_); rotate_left; (· simp)))
end Go.Proofs.Ytkcehoejcklmfaa.L
