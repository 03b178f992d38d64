/- The contract of the lexer's token. -/
import Derived.Test.YtpodniljpinigaaLexQuo
import Derived.Test.YtpodniljpinigaaSchedB
namespace Go.Proofs.Ytpodniljpinigaa.X
open Go.RowKit O V S

def tkCells (k : Int) (x : List UInt8) (v : Val) (s : List UInt8) (i : Nat) : List Value := [.int .i64 k, .string ⟨x.toArray⟩, .int .i64 v.k, .int .i64 v.n, .string ⟨v.s.toArray⟩, .int .i64 (i : Int), .int .i64 (lineOf s i : Int), .int .i64 ((i : Int) - (startOf s i : Int) + 1)]
theorem tokL_cons (c : UInt8) (r : List UInt8) : tokL (c :: r) = if smallC c then (if runLen wordC (c :: r) > 16 then ⟨2, 0, 1, 0, zeroV⟩ else ⟨0, 0, 1, runLen wordC (c :: r), zeroV⟩)
    else if digitC c then (if numOk ((c :: r).take (runLen digitC (c :: r))) then ⟨0, 0, 2, runLen digitC (c :: r), ⟨1, (numV ((c :: r).take (runLen digitC (c :: r))) : Nat), []⟩⟩ else ⟨11, 0, 2, 0, zeroV⟩)
    else if c.toNat = 34 then quoL (c :: r)
    else if signL (c :: r) = 0 then ⟨10, 0, 4, 0, zeroV⟩ else ⟨0, 0, 4, signL (c :: r), zeroV⟩ := rfl
theorem quoL_cases (t : List UInt8) (h : 0 < t.length) : (∃ n x, quoL t = ⟨0, 0, 3, n, ⟨3, 0, x⟩⟩ ∧ n ≤ t.length) ∨ (∃ e off, quoL t = ⟨e, off, 3, 0, zeroV⟩ ∧ (e = 12 ∨ e = 10 ∨ e = 2)) := by
  cases hq : quoS (t.drop 1) 1 ⟨0, [], none⟩ with
  | none => exact .inr ⟨12, t.length, by unfold quoL; rw [hq], .inl rfl⟩
  | some Q =>
    cases hb : Q.bad with
    | some k => exact .inr ⟨10, k, quoL_bad hq hb, .inr (.inl rfl)⟩
    | none =>
      have h1 := quoL_ok hq hb
      have h2 := (qs_lt _ _ (Nat.le_refl _) _ _ _ hq).2.1
      simp at h2
      split at h1
      · exact .inr ⟨2, 0, h1, .inr (.inr rfl)⟩
      · exact .inl ⟨_, _, h1, by omega⟩
theorem run_take (p : UInt8 → Bool) : ∀ (t : List UInt8) (j : Nat) (h : j < (t.take (runLen p t)).length), p (t.take (runLen p t))[j] = true
  | [], j, h => by simp at h
  | c :: r, j, h => by
    have hp : p c = true := by
      cases hc : p c
      · have e : runLen p (c :: r) = 0 := by unfold runLen; rw [if_neg (by simp [hc])]
        rw [e] at h; simp at h
      · rfl
    have e : runLen p (c :: r) = runLen p r + 1 := by conv => lhs; unfold runLen
                                                      rw [if_pos hp]
    match j with
    | 0 => simp only [e, List.take_succ_cons, List.getElem_cons_zero]; exact hp
    | j + 1 =>
      simp only [e, List.take_succ_cons, List.getElem_cons_succ]
      simp only [e, List.take_succ_cons, List.length_cons] at h
      exact run_take p r j (by omega)
theorem sign_le : ∀ t : List UInt8, 0 < t.length → signL t ≤ t.length
  | [c], _ => by
    have e : signL [c] = if one c.toNat then 1 else 0 := rfl
    rw [e]; split <;> simp
  | c :: d :: r, _ => by
    have e : signL (c :: d :: r) = if two c.toNat d.toNat then 2 else if one c.toNat then 1 else 0 := rfl
    rw [e]
    split
    · simp
    · split <;> simp
theorem cells8 {W : World} {b : Nat} {x0 x1 x2 x3 x4 x5 x6 x7 : Value} {T : TypeId} (h : W.heap[b]? = some (.cells #[x0, x1, x2, x3, x4, x5, x6, x7] T (0, 0))) : W.cell? ⟨b, 0, none⟩ = some x0 ∧ W.cell? ⟨b, 1, none⟩ = some x1 ∧ W.cell? ⟨b, 2, none⟩ = some x2 ∧ W.cell? ⟨b, 3, none⟩ = some x3 ∧ W.cell? ⟨b, 4, none⟩ = some x4 ∧ W.cell? ⟨b, 5, none⟩ = some x5 ∧ W.cell? ⟨b, 6, none⟩ = some x6 ∧ W.cell? ⟨b, 7, none⟩ = some x7 := by
  refine ⟨?_, ?_, ?_, ?_, ?_, ?_, ?_, ?_⟩ <;> (rw [Lib.cell_of_heap h]; rfl)
theorem frozen8 {W : World} {b : Nat} {cs : Array Value} {T : TypeId} (h : W.heap[b]? = some (.cells cs T (0, 0))) : W.frozen? ⟨b, 0, none⟩ = false ∧ W.frozen? ⟨b, 1, none⟩ = false ∧ W.frozen? ⟨b, 2, none⟩ = false ∧ W.frozen? ⟨b, 3, none⟩ = false ∧ W.frozen? ⟨b, 4, none⟩ = false ∧ W.frozen? ⟨b, 5, none⟩ = false ∧ W.frozen? ⟨b, 6, none⟩ = false ∧ W.frozen? ⟨b, 7, none⟩ = false :=
  ⟨Lib.frozen_of_heap h 0, Lib.frozen_of_heap h 1, Lib.frozen_of_heap h 2, Lib.frozen_of_heap h 3, Lib.frozen_of_heap h 4, Lib.frozen_of_heap h 5, Lib.frozen_of_heap h 6, Lib.frozen_of_heap h 7⟩
/-- What token hands back. -/
def RetT (R : TokR) (t s : List UInt8) (i : Nat) : Ending := .returned (.tuple #[.agg (tkCells R.k (t.take R.n) R.v s i).toArray, .int .i64 R.e, .int .i64 (if R.e = 0 then 0 else ((i + R.off : Nat) : Int))])
def TkI (w : World) (g : Nat) (s : List UInt8) (j : Nat) (W : World) : Prop := Lx W g s j ∧ w.grownBy W (some g)
theorem tki_set {w W : World} {g j b x : Nat} {s : List UInt8} {v : Value} (h : TkI w g s j W) (hb : w.heap.size ≤ b) (hg : g < w.heap.size) : TkI w g s j (W.setCell ⟨b, x, none⟩ v) := by
  have hne : g ≠ b := by omega
  exact ⟨⟨(Below.heap_setCell _ _ _ _ hne).trans h.1.box, h.1.i, h.1.n⟩, h.2.os, h.2.tape, h.2.output, by simpa using h.2.size, fun i hi hr => (Below.heap_setCell _ _ _ _ (show i ≠ b by omega)).trans (h.2.block i hi hr)⟩
theorem tki_below {w W : World} {g j : Nat} {s : List UInt8} (B : Below w.heap.size w W) (h : Lx w g s j) : TkI w g s j W := ⟨h.next B, gb_below B _⟩
set_option maxHeartbeats 2000000 in
set_option maxRecDepth 100000 in
theorem token_any (g : Nat) (s : List UInt8) (i : Nat) (w : World) (h : Lx w g s i) (hin : i < s.length) : Calls Try.prog 38 #[.pointer (some ⟨g, 0, none⟩)] w fun e w' => e = RetT (tokL (s.drop i)) (s.drop i) s i ∧ Lx w' g s (i + (tokL (s.drop i)).n) ∧ w.grownBy w' (some g) := by
  have hn := h.n
  have hi := h.i
  have HL := Lib.hid h
  have hgl := h.lt
  have hsz : (ByteArray.mk s.toArray).size = s.length := by simp [ByteArray.size]
  have hle := lineOf_le s i
  have hse := startOf_le s i
  obtain ⟨c, hc⟩ : ∃ c, s[i] = c := ⟨_, rfl⟩
  have hx := ba_at s i hin hc
  have HD : Hid (s.drop i = c :: s.drop (i + 1)) := Lib.hid (by rw [← hc]; exact List.drop_eq_getElem_cons hin)
  clear h hc
  go_enter Try.func38, Try.ntmps38
  go_wp2_with fail
  have hgw : g ≠ w.heap.size := by omega
  have B0 : Below w.heap.size w (w.alloc (.cells #[.int .i64 0, .string ⟨#[]⟩, .int .i64 0, .int .i64 0, .string ⟨#[]⟩, .int .i64 0, .int .i64 0, .int .i64 0] 45)) := (Below.refl _ _).alloc (Nat.le_refl _) _
  have L0 := Lib.hid (HL.out.next B0)
  refine wp_region_schedB [g] [(0, true), (1, true), (2, true), (3, true), (5, true), (6, true), (7, true), (8, true), (9, true), (4, false), (10, true), (11, false), (12, true)] (by kernel_rfl) (by kernel_rfl) (fun _ _ d _ _ h => by cases d <;> exact h) ?_
  refine bwith (fun W hW => (cells4 (hW.one L0.out.box))) (fun q => ?_)
  repeat (first | (refine sreadxB rfl rfl ?_; apply Exists.intro; apply And.intro; (· (intro W hW; first | (go_simp; done) | (go_simp; with_reducible rfl) | (go_simp; rw [if_neg (by omega)]; done) | (go_simp; rw [if_neg (by omega)]; with_reducible rfl))); simp only [Act.put, List.setIfInBounds_toArray, List.set_cons_zero, List.set_cons_succ]) | (refine bskip rfl rfl ?_; simp only [Act.put, List.setIfInBounds_toArray, List.set_cons_zero, List.set_cons_succ]))
  generalize hT : (w.alloc (.cells #[.int .i64 0, .string ⟨#[]⟩, .int .i64 0, .int .i64 0, .string ⟨#[]⟩, .int .i64 0, .int .i64 0, .int .i64 0] 45)) = W0 at *
  have X0 : W0.heap[w.heap.size]? = some (.cells #[.int .i64 0, .string ⟨#[]⟩, .int .i64 0, .int .i64 0, .string ⟨#[]⟩, .int .i64 0, .int .i64 0, .int .i64 0] 45 (0, 0)) := by rw [← hT]; exact heap_alloc_new _ _
  have HX0 := Lib.hid X0
  clear hT X0
  have hgW : g < W0.heap.size := L0.out.lt
  have hbW : w.heap.size < W0.heap.size := (Array.getElem?_eq_some_iff.1 HX0.out).1
  refine bcall rfl rfl (fun K hK => ?_)
  go_simp
  refine (here_any i (lineOf s i) (startOf s i) _ (by omega) (by omega)).mono ?_; rintro e w2 ⟨rfl, b2⟩
  go_wp2_with fail
  refine hK.out _ _ (by exact KB.of_below b2 (fun k hk => by simp at hk; subst hk; exact hgW)) ?_
  clear hK K
  try simp only [Act.put, List.setIfInBounds_toArray, List.set_cons_zero, List.set_cons_succ]
  have BW2 : Below W0.heap.size W0 w2 := (Below.refl _ _).drew.trans b2
  have X2 := box_next HX0.out BW2
  have L2 := Lib.hid (L0.out.next BW2)
  have G2 := Lib.hid (gb_trans (gb_below B0 (some g)) (gb_below BW2 (some g)))
  clear q b2
  repeat (first | (refine sreadxB rfl rfl ?_; apply Exists.intro; apply And.intro; (· (intro W hW; first | (go_simp; done) | (go_simp; with_reducible rfl) | (go_simp; rw [if_neg (by omega)]; done) | (go_simp; rw [if_neg (by omega)]; with_reducible rfl))); simp only [Act.put, List.setIfInBounds_toArray, List.set_cons_zero, List.set_cons_succ]) | (refine bskip rfl rfl ?_; simp only [Act.put, List.setIfInBounds_toArray, List.set_cons_zero, List.set_cons_succ]))
  simp only [pv]
  have f5 := Lib.frozen_of_heap X2 5
  have f6 := Lib.frozen_of_heap X2 6
  have f7 := Lib.frozen_of_heap X2 7
  have c5 : w2.cell? ⟨w.heap.size, 5, none⟩ = some (.int .i64 0) := by rw [Lib.cell_of_heap X2]; rfl
  have c6 : w2.cell? ⟨w.heap.size, 6, none⟩ = some (.int .i64 0) := by rw [Lib.cell_of_heap X2]; rfl
  have c7 : w2.cell? ⟨w.heap.size, 7, none⟩ = some (.int .i64 0) := by rw [Lib.cell_of_heap X2]; rfl
  refine bcall rfl rfl (fun K hK => ?_)
  go_simp
  refine hK.out _ _ (fun k hk => ?_) ?_
  · simp at hk; subst hk
    exact (Below.heap_setCell _ _ _ _ hgw).trans ((Below.heap_setCell _ _ _ _ hgw).trans (Below.heap_setCell _ _ _ _ hgw))
  clear hK K
  try simp only [Act.put, List.setIfInBounds_toArray, List.set_cons_zero, List.set_cons_succ]
  repeat (first | (refine sreadxB rfl rfl ?_; apply Exists.intro; apply And.intro; (· (intro W hW; first | (go_simp; done) | (go_simp; with_reducible rfl) | (go_simp; rw [if_neg (by omega)]; done) | (go_simp; rw [if_neg (by omega)]; with_reducible rfl))); simp only [Act.put, List.setIfInBounds_toArray, List.set_cons_zero, List.set_cons_succ]) | (refine bskip rfl rfl ?_; simp only [Act.put, List.setIfInBounds_toArray, List.set_cons_zero, List.set_cons_succ]))
  refine bdone ?_
  have X3 := heap_set (i := 7) (heap_set (i := 6) (heap_set (i := 5) X2 (.int .i64 (i : Int))) (.int .i64 (lineOf s i : Int))) (.int .i64 ((i : Int) - (startOf s i : Int) + 1))
  have B3 : Below w.heap.size w (((w2.setCell ⟨w.heap.size, 5, none⟩ (.int .i64 (i : Int))).setCell ⟨w.heap.size, 6, none⟩ (.int .i64 (lineOf s i : Int))).setCell ⟨w.heap.size, 7, none⟩ (.int .i64 ((i : Int) - (startOf s i : Int) + 1))) := by
    have := bthen B0 BW2
    exact ((this.setCell (p := ⟨w.heap.size, 5, none⟩) (Nat.le_refl _) _).setCell (p := ⟨w.heap.size, 6, none⟩) (Nat.le_refl _) _).setCell (p := ⟨w.heap.size, 7, none⟩) (Nat.le_refl _) _
  generalize (((w2.setCell ⟨w.heap.size, 5, none⟩ (.int .i64 (i : Int))).setCell ⟨w.heap.size, 6, none⟩ (.int .i64 (lineOf s i : Int))).setCell ⟨w.heap.size, 7, none⟩ (.int .i64 ((i : Int) - (startOf s i : Int) + 1))) = W3 at *
  clear c5 c6 c7 f5 f6 f7 X2 L2 G2 BW2 B0 L0 HX0 hgW hbW
  obtain ⟨cl, hcl⟩ : ∃ cl : Int, (i : Int) - (startOf s i : Int) + 1 = cl := ⟨_, rfl⟩
  obtain ⟨ln, hln⟩ : ∃ ln : Int, (lineOf s i : Int) = ln := ⟨_, rfl⟩
  rw [hcl, hln] at X3
  have X3' : W3.heap[w.heap.size]? = some (.cells #[.int .i64 0, .string ⟨#[]⟩, .int .i64 0, .int .i64 0, .string ⟨#[]⟩, .int .i64 (i : Int), .int .i64 ln, .int .i64 cl] 45 (0, 0)) := X3
  clear X3
  have L3 := Lib.hid (HL.out.next B3)
  have HC := Lib.hid hcl
  have HLN := Lib.hid hln
  clear hle hse hcl hln
  go_wp2_with fail
  refine wp_region_sched [(0, true), (1, true), (2, true), (3, true), (4, true), (5, true), (6, true), (7, true), (8, true), (9, true), (10, true)] (by kernel_rfl) (by kernel_rfl) (fun _ _ d _ _ h => by cases d <;> exact h) ?_
  refine swith (fun W hW => (cells4 (L3.out.next ((Below.refl _ _).drew.trans (hW.out.mono (Nat.le_refl _)))).box)) (fun q => ?_)
  repeat (first | (refine sreadx rfl rfl ?_; apply Exists.intro; apply And.intro; (· (intro W hW; first | (go_simp; done) | (go_simp; with_reducible rfl) | (go_simp; rw [if_neg (by omega)]; done) | (go_simp; rw [if_neg (by omega)]; with_reducible rfl))); simp only [Act.put, List.setIfInBounds_toArray, List.set_cons_zero, List.set_cons_succ]) | (refine sskip rfl rfl ?_; simp only [Act.put, List.setIfInBounds_toArray, List.set_cons_zero, List.set_cons_succ]))
  refine sdone ?_
  clear q
  have X4 := box_next X3' (Below.refl _ _).drew
  have L4 := Lib.hid (L3.out.next (Below.refl _ _).drew)
  have B4 := B3.drew
  clear X3' L3 B3
  generalize W3.drew = W4 at *
  go_wp2_with fail
  refine (lsmall_any c _).mono ?_; rintro e w5 ⟨rfl, rfl⟩
  cases hsm : smallC c
  · go_wp2_with fail
    refine (ldigit_any c _).mono ?_; rintro e w5 ⟨rfl, rfl⟩
    cases hdg : digitC c
    · by_cases h34 : c.toNat = 34
      · have e1 : ((c.toNat : Int) == 34) = true := by simp; omega
        have ht : Hid (tokL (s.drop i) = quoL (s.drop i)) := Lib.hid (by rw [HD.out, tokL_cons, if_neg (by simp [hsm]), if_neg (by simp [hdg]), if_pos h34])
        have hq34 : (s[i]).toNat = 34 := by
          have := HD.out
          rw [List.drop_eq_getElem_cons hin] at this
          injection this with this _
          rw [this]; exact h34
        have HQ := Lib.hid (quoL_cases (s.drop i) (by simp; omega))
        clear hsm hdg h34
        obtain ⟨k0, k1, k2, k3, k4, k5, k6, k7⟩ := cells8 X4
        obtain ⟨z0, z1, z2, z3, z4, z5, z6, z7⟩ := frozen8 X4
        go_wp2_with fail
        have X5 := X4
        have B5 := B4
        have L5 := L4
        clear k0 k1 k2 k3 k4 k5 k6 k7 z0 z1 z2 z3 z4 z5 z6 z7
        replace X5 : (W4.setCell ⟨w.heap.size, 0, none⟩ (.int .i64 3)).heap[w.heap.size]? = some (.cells #[.int .i64 3, .string ⟨#[]⟩, .int .i64 0, .int .i64 0, .string ⟨#[]⟩, .int .i64 (i : Int), .int .i64 ln, .int .i64 cl] 45 (0, 0)) := heap_set (i := 0) X4 (.int .i64 3)
        replace B5 := B4.setCell (p := ⟨w.heap.size, 0, none⟩) (Nat.le_refl _) (.int .i64 3)
        replace L5 := Lib.hid (HL.out.next B5)
        clear X4 B4 L4
        generalize (W4.setCell ⟨w.heap.size, 0, none⟩ (.int .i64 3)) = W5 at *
        refine (lquoted_any g s i _ L5.out hin hq34).mono ?_; rintro e w6 ⟨rfl, b6⟩
        replace X5 := box_next X5 b6
        replace B5 := bthen B5 b6
        replace L5 := Lib.hid (L5.out.next b6)
        clear b6
        obtain ⟨k0, k1, k2, k3, k4, k5, k6, k7⟩ := cells8 X5
        obtain ⟨z0, z1, z2, z3, z4, z5, z6, z7⟩ := frozen8 X5
        rcases HQ.out with ⟨k, x, hq, hk⟩ | ⟨er, off, hq, her⟩
        · have HT := Lib.hid (ht.out.trans hq)
          replace hk : i + k ≤ s.length := by rw [List.length_drop] at hk; omega
          rw [hq]
          unfold RetQ
          clear hq ht HQ
          simp only [if_true]
          go_wp2_with fail
          refine (ltext_any x _).mono ?_; rintro e w7 ⟨rfl, b7⟩
          replace X5 := box_next X5 b7
          replace B5 := bthen B5 b7
          replace L5 := Lib.hid (L5.out.next b7)
          clear b7 k0 k1 k2 k3 k4 k5 k6 k7 z0 z1 z2 z3 z4 z5 z6 z7
          obtain ⟨k0, k1, k2, k3, k4, k5, k6, k7⟩ := cells8 X5
          obtain ⟨z0, z1, z2, z3, z4, z5, z6, z7⟩ := frozen8 X5
          unfold vv
          go_wp2_with fail
          clear k0 k1 k2 k3 k4 k5 k6 k7 z0 z1 z2 z3 z4 z5 z6 z7
          replace X5 := heap_set (i := 4) (heap_set (i := 3) (heap_set (i := 2) X5 (.int .i64 3)) (.int .i64 0)) (.string ⟨x.toArray⟩)
          replace X5 : (((w7.setCell ⟨w.heap.size, 2, none⟩ (.int .i64 3)).setCell ⟨w.heap.size, 3, none⟩ (.int .i64 0)).setCell ⟨w.heap.size, 4, none⟩ (.string ⟨x.toArray⟩)).heap[w.heap.size]? = some (.cells #[.int .i64 3, .string ⟨#[]⟩, (.int .i64 3), (.int .i64 0), (.string ⟨x.toArray⟩), .int .i64 (i : Int), .int .i64 ln, .int .i64 cl] 45 (0, 0)) := X5
          replace B5 := ((B5.setCell (p := ⟨w.heap.size, 2, none⟩) (Nat.le_refl _) (.int .i64 3)).setCell (p := ⟨w.heap.size, 3, none⟩) (Nat.le_refl _) (.int .i64 0)).setCell (p := ⟨w.heap.size, 4, none⟩) (Nat.le_refl _) (.string ⟨x.toArray⟩)
          replace L5 := Lib.hid (HL.out.next B5)
          generalize (((w7.setCell ⟨w.heap.size, 2, none⟩ (.int .i64 3)).setCell ⟨w.heap.size, 3, none⟩ (.int .i64 0)).setCell ⟨w.heap.size, 4, none⟩ (.string ⟨x.toArray⟩)) = W5 at *
          have hT1 : w.heap.size < (W5).heap.size := (Array.getElem?_eq_some_iff.1 X5).1
          refine (pass_any g s i k (W5) L5.out hk).mono ?_; rintro e w6 ⟨rfl, l6, g6⟩
          have X6 := (g6.block w.heap.size hT1 (by simp; omega)).trans X5
          obtain ⟨k0, k1, k2, k3, k4, k5, k6, k7⟩ := cells8 X6
          obtain ⟨z0, z1, z2, z3, z4, z5, z6, z7⟩ := frozen8 X6
          have T6 : TkI w g s (i + k) w6 := ⟨l6, gb_trans (gb_below B5 _) g6⟩
          clear X5 L5 B5 g6 l6
          go_wp2_with fail
          refine bodyPost_ret (v := .tuple #[.agg (tkCells 3 ((s.drop i).take k) ⟨3, 0, x⟩ s i).toArray, .int .i64 0, .int .i64 0]) (by simp [results, Try.results38, go_sem, tkCells, k0, k1, k2, k3, k4, k5, k6, k7, HC.out, HLN.out]) rfl ?_
          rw [HT.out]
          refine ⟨rfl, ?_⟩
          repeat (first | (with_reducible assumption) | refine tki_set ?_ (Nat.le_refl _) hgl)
        · have HT := Lib.hid (ht.out.trans hq)
          rw [hq]
          unfold RetQ
          have hne : er ≠ 0 := by omega
          have g1 : (er != 0) = true := by simpa using hne
          have g2 : (er == 0) = false := by simpa using hne
          obtain ⟨m, hm⟩ : ∃ m, ((i + off : Nat) : Int) = m := ⟨_, rfl⟩
          have HM := Lib.hid hm
          simp only [if_neg hne]
          rw [hm]
          clear hq ht HQ her hm
          have HNE := Lib.hid hne
          clear hne
          go_wp2_with fail
          refine bodyPost_ret (v := .tuple #[.agg (tkCells 3 [] zeroV s i).toArray, .int .i64 er, .int .i64 m]) (by simp [results, Try.results38, go_sem, tkCells, zeroV, k0, k1, k2, k3, k4, k5, k6, k7, HC.out, HLN.out]) rfl ?_
          rw [HT.out]
          refine ⟨?_, ?_⟩
          · unfold RetT
            rw [if_neg HNE.out, ← HM.out]
            rfl
          change TkI w g s i _
          have T5 := tki_below B5 HL.out
          repeat (first | (with_reducible assumption) | refine tki_set ?_ (Nat.le_refl _) hgl)
      · have e1 : ((c.toNat : Int) == 34) = false := by simp; omega
        have ht : Hid (tokL (s.drop i) = if signL (s.drop i) = 0 then ⟨10, 0, 4, 0, zeroV⟩ else ⟨0, 0, 4, signL (s.drop i), zeroV⟩) := Lib.hid (by rw [HD.out, tokL_cons, if_neg (by simp [hsm]), if_neg (by simp [hdg]), if_neg h34])
        have hk := sign_le (s.drop i) (by simp; omega)
        rw [List.length_drop] at hk
        clear hsm hdg h34
        go_wp2_with fail
        refine (sign_any g s i _ L4.out hin).mono ?_; rintro e w5 ⟨rfl, b5⟩
        obtain ⟨k, hkk⟩ : ∃ k, signL (s.drop i) = k := ⟨_, rfl⟩
        rw [hkk] at ht hk
        replace hk : i + k ≤ s.length := by omega
        rw [hkk]
        have X5 := box_next X4 b5
        have B5 := bthen B4 b5
        obtain ⟨k0, k1, k2, k3, k4, k5, k6, k7⟩ := cells8 X5
        obtain ⟨z0, z1, z2, z3, z4, z5, z6, z7⟩ := frozen8 X5
        clear X4 L4 B4 b5
        by_cases h0 : k = 0
        · have HT := Lib.hid (ht.out.trans (if_pos h0))
          have g1 : ((k : Int) == 0) = true := by simp; omega
          clear h0
          go_wp2_with fail
          refine bodyPost_ret (v := .tuple #[.agg (tkCells 4 [] zeroV s i).toArray, .int .i64 10, .int .i64 (i : Int)]) (by simp [results, Try.results38, go_sem, tkCells, zeroV, k0, k1, k2, k3, k4, k5, k6, k7, HC.out, HLN.out]) rfl ?_
          rw [HT.out]
          refine ⟨rfl, ?_⟩
          change TkI w g s i _
          have T5 := tki_below B5 HL.out
          repeat (first | (with_reducible assumption) | refine tki_set ?_ (Nat.le_refl _) hgl)
        · have HT := Lib.hid (ht.out.trans (if_neg h0))
          have g1 : ((k : Int) == 0) = false := by simp; omega
          clear h0
          go_wp2_with fail
          replace X5 := heap_set (i := 0) X5 (.int .i64 4)
          replace X5 : (w5.setCell ⟨w.heap.size, 0, none⟩ (.int .i64 4)).heap[w.heap.size]? = some (.cells #[.int .i64 4, .string ⟨#[]⟩, .int .i64 0, .int .i64 0, .string ⟨#[]⟩, .int .i64 (i : Int), .int .i64 ln, .int .i64 cl] 45 (0, 0)) := X5
          replace B5 := B5.setCell (p := ⟨w.heap.size, 0, none⟩) (Nat.le_refl _) (.int .i64 4)
          replace L5 := Lib.hid (HL.out.next B5)
          clear k0 k1 k2 k3 k4 k5 k6 k7 z0 z1 z2 z3 z4 z5 z6 z7
          generalize (w5.setCell ⟨w.heap.size, 0, none⟩ (.int .i64 4)) = W5 at *
          have hT1 : w.heap.size < (W5).heap.size := (Array.getElem?_eq_some_iff.1 X5).1
          refine (pass_any g s i k (W5) L5.out hk).mono ?_; rintro e w6 ⟨rfl, l6, g6⟩
          have X6 := (g6.block w.heap.size hT1 (by simp; omega)).trans X5
          obtain ⟨k0, k1, k2, k3, k4, k5, k6, k7⟩ := cells8 X6
          obtain ⟨z0, z1, z2, z3, z4, z5, z6, z7⟩ := frozen8 X6
          have T6 : TkI w g s (i + k) w6 := ⟨l6, gb_trans (gb_below B5 _) g6⟩
          clear X5 L5 B5 g6 l6
          go_wp2_with fail
          refine bodyPost_ret (v := .tuple #[.agg (tkCells 4 ((s.drop i).take k) zeroV s i).toArray, .int .i64 0, .int .i64 0]) (by simp [results, Try.results38, go_sem, tkCells, k0, k1, k2, k3, k4, k5, k6, k7, HC.out, HLN.out, zeroV]) rfl ?_
          rw [HT.out]
          refine ⟨rfl, ?_⟩
          repeat (first | (with_reducible assumption) | refine tki_set ?_ (Nat.le_refl _) hgl)
    · have ht : Hid (tokL (s.drop i) = if numOk ((s.drop i).take (runLen digitC (s.drop i))) then ⟨0, 0, 2, runLen digitC (s.drop i), ⟨1, (numV ((s.drop i).take (runLen digitC (s.drop i))) : Nat), []⟩⟩ else ⟨11, 0, 2, 0, zeroV⟩) := Lib.hid (by rw [HD.out, tokL_cons, if_neg (by simp [hsm]), if_pos hdg])
      have hpos : 0 < runLen digitC (s.drop i) := by
        rw [HD.out]; unfold runLen; rw [if_pos hdg]; omega
      have hall := run_take digitC (s.drop i)
      clear hsm hdg
      go_wp2_with fail
      refine (run_digit g s i _ L4.out).mono ?_; rintro e w5 ⟨rfl, b5⟩
      have hk := drop_take_len digitC hi
      obtain ⟨k, hkk⟩ : ∃ k, runLen digitC (s.drop i) = k := ⟨_, rfl⟩
      rw [hkk] at ht hk hall hpos
      rw [hkk]
      obtain ⟨m, hm⟩ : ∃ m, m = i + k := ⟨_, rfl⟩
      have hwr : IntKind.i64.wrap ((i : Int) + (k : Int)) = (m : Int) := by rw [IntWalk.i64_in _ (by omega)]; omega
      have hcut := cut_at s i k m hm
      have hmi : m ≤ s.length := by omega
      have him : i ≤ m := by omega
      have hl1 : 0 < ((s.drop i).take k).length := by simp; omega
      have hl2 : ((s.drop i).take k).length ≤ 20000 := by simp; omega
      obtain ⟨l, hl⟩ : ∃ l, (s.drop i).take k = l := ⟨_, rfl⟩
      have HLL := Lib.hid hl
      have HM := Lib.hid hm
      have HALL : Hid (∀ j (h : j < l.length), digitC l[j] = true) := Lib.hid (by subst hl; exact hall)
      rw [hl] at ht hcut hl1 hl2
      clear hl hall hm
      have X5 := box_next X4 b5
      have L5 := Lib.hid (L4.out.next b5)
      have B5 := bthen B4 b5
      obtain ⟨⟨y0, y1⟩, y2, y3⟩ := cells4 L5.out.box
      obtain ⟨k0, k1, k2, k3, k4, k5, k6, k7⟩ := cells8 X5
      obtain ⟨z0, z1, z2, z3, z4, z5, z6, z7⟩ := frozen8 X5
      clear X4 L4 B4 b5
      go_wp2_with fail
      refine (lnum_any l _ hl1 HALL.out hl2).mono ?_; rintro e w6 ⟨rfl, v, rfl, hv⟩
      clear hcut y0 y1 y2 y3
      cases hok : numOk l
      · have HT := Lib.hid (ht.out.trans (by rw [if_neg (by simp [hok])]))
        clear hok hv ht
        go_wp2_with fail
        refine bodyPost_ret (v := .tuple #[.agg (tkCells 2 [] zeroV s i).toArray, .int .i64 11, .int .i64 (i : Int)]) (by simp [results, Try.results38, go_sem, tkCells, zeroV, k0, k1, k2, k3, k4, k5, k6, k7, HC.out, HLN.out]) rfl ?_
        rw [HT.out]
        refine ⟨rfl, ?_⟩
        change TkI w g s i _
        have T5 := tki_below B5 HL.out
        repeat (first | (with_reducible assumption) | refine tki_set ?_ (Nat.le_refl _) hgl)
      · have HT := Lib.hid (ht.out.trans (by rw [if_pos hok]))
        have HV := Lib.hid (hv hok)
        clear hok hv ht
        go_wp2_with fail
        replace X5 := heap_set (i := 0) X5 (.int .i64 2)
        replace X5 : (w5.setCell ⟨w.heap.size, 0, none⟩ (.int .i64 2)).heap[w.heap.size]? = some (.cells #[.int .i64 2, .string ⟨#[]⟩, .int .i64 0, .int .i64 0, .string ⟨#[]⟩, .int .i64 (i : Int), .int .i64 ln, .int .i64 cl] 45 (0, 0)) := X5
        replace B5 := B5.setCell (p := ⟨w.heap.size, 0, none⟩) (Nat.le_refl _) (.int .i64 2)
        replace L5 := Lib.hid (HL.out.next B5)
        clear k0 k1 k2 k3 k4 k5 k6 k7 z0 z1 z2 z3 z4 z5 z6 z7
        generalize (w5.setCell ⟨w.heap.size, 0, none⟩ (.int .i64 2)) = W5 at *
        refine (lint_any v _).mono ?_; rintro e w7 ⟨rfl, b7⟩
        replace X5 := box_next X5 b7
        replace B5 := bthen B5 b7
        replace L5 := Lib.hid (L5.out.next b7)
        clear b7
        obtain ⟨k0, k1, k2, k3, k4, k5, k6, k7⟩ := cells8 X5
        obtain ⟨z0, z1, z2, z3, z4, z5, z6, z7⟩ := frozen8 X5
        unfold vv
        go_wp2_with fail
        clear k0 k1 k2 k3 k4 k5 k6 k7 z0 z1 z2 z3 z4 z5 z6 z7
        replace X5 := heap_set (i := 4) (heap_set (i := 3) (heap_set (i := 2) X5 (.int .i64 1)) (.int .i64 v)) (.string ⟨#[]⟩)
        replace X5 : (((w7.setCell ⟨w.heap.size, 2, none⟩ (.int .i64 1)).setCell ⟨w.heap.size, 3, none⟩ (.int .i64 v)).setCell ⟨w.heap.size, 4, none⟩ (.string ⟨#[]⟩)).heap[w.heap.size]? = some (.cells #[.int .i64 2, .string ⟨#[]⟩, (.int .i64 1), (.int .i64 v), (.string ⟨#[]⟩), .int .i64 (i : Int), .int .i64 ln, .int .i64 cl] 45 (0, 0)) := X5
        replace B5 := ((B5.setCell (p := ⟨w.heap.size, 2, none⟩) (Nat.le_refl _) (.int .i64 1)).setCell (p := ⟨w.heap.size, 3, none⟩) (Nat.le_refl _) (.int .i64 v)).setCell (p := ⟨w.heap.size, 4, none⟩) (Nat.le_refl _) (.string ⟨#[]⟩)
        replace L5 := Lib.hid (HL.out.next B5)
        generalize (((w7.setCell ⟨w.heap.size, 2, none⟩ (.int .i64 1)).setCell ⟨w.heap.size, 3, none⟩ (.int .i64 v)).setCell ⟨w.heap.size, 4, none⟩ (.string ⟨#[]⟩)) = W5 at *
        rw [← HV.out] at HT
        have hT1 : w.heap.size < (W5).heap.size := (Array.getElem?_eq_some_iff.1 X5).1
        refine (pass_any g s i k (W5) L5.out hk).mono ?_; rintro e w6 ⟨rfl, l6, g6⟩
        have X6 := (g6.block w.heap.size hT1 (by simp; omega)).trans X5
        obtain ⟨k0, k1, k2, k3, k4, k5, k6, k7⟩ := cells8 X6
        obtain ⟨z0, z1, z2, z3, z4, z5, z6, z7⟩ := frozen8 X6
        have T6 : TkI w g s (i + k) w6 := ⟨l6, gb_trans (gb_below B5 _) g6⟩
        clear X5 L5 B5 g6 l6
        go_wp2_with fail
        refine bodyPost_ret (v := .tuple #[.agg (tkCells 2 ((s.drop i).take k) ⟨1, v, []⟩ s i).toArray, .int .i64 0, .int .i64 0]) (by simp [results, Try.results38, go_sem, tkCells, k0, k1, k2, k3, k4, k5, k6, k7, HC.out, HLN.out]) rfl ?_
        rw [HT.out]
        refine ⟨rfl, ?_⟩
        repeat (first | (with_reducible assumption) | refine tki_set ?_ (Nat.le_refl _) hgl)
  · have ht : Hid (tokL (s.drop i) = if runLen wordC (s.drop i) > 16 then ⟨2, 0, 1, 0, zeroV⟩ else ⟨0, 0, 1, runLen wordC (s.drop i), zeroV⟩) := Lib.hid (by rw [HD.out, tokL_cons, if_pos hsm])
    clear hsm
    go_wp2_with fail
    refine (run_word g s i _ L4.out).mono ?_; rintro e w5 ⟨rfl, b5⟩
    have hk := drop_take_len wordC hi
    obtain ⟨k, hkk⟩ : ∃ k, runLen wordC (s.drop i) = k := ⟨_, rfl⟩
    rw [hkk] at ht hk
    rw [hkk]
    have X5 := box_next X4 b5
    have L5 := Lib.hid (L4.out.next b5)
    have B5 := bthen B4 b5
    obtain ⟨k0, k1, k2, k3, k4, k5, k6, k7⟩ := cells8 X5
    obtain ⟨z0, z1, z2, z3, z4, z5, z6, z7⟩ := frozen8 X5
    clear X4 L4 B4 b5
    by_cases hbig : k > 16
    · have HT := Lib.hid (ht.out.trans (if_pos hbig))
      have g1 : decide ((k : Int) > 16) = true := by simp; omega
      have g1' : decide (16 < (k : Int)) = true := by simp; omega
      clear hbig
      go_wp2_with fail
      refine bodyPost_ret (v := .tuple #[.agg (tkCells 1 [] zeroV s i).toArray, .int .i64 2, .int .i64 (i : Int)]) (by simp [results, Try.results38, go_sem, tkCells, zeroV, k0, k1, k2, k3, k4, k5, k6, k7, HC.out, HLN.out]) rfl ?_
      rw [HT.out]
      refine ⟨rfl, ?_⟩
      change TkI w g s i _
      have T5 := tki_below B5 HL.out
      repeat (first | (with_reducible assumption) | refine tki_set ?_ (Nat.le_refl _) hgl)
    · have HT := Lib.hid (ht.out.trans (if_neg hbig))
      have g1 : decide ((k : Int) > 16) = false := by simp; omega
      have g1' : decide (16 < (k : Int)) = false := by simp; omega
      clear hbig
      go_wp2_with fail
      replace X5 := heap_set (i := 0) X5 (.int .i64 1)
      replace X5 : (w5.setCell ⟨w.heap.size, 0, none⟩ (.int .i64 1)).heap[w.heap.size]? = some (.cells #[.int .i64 1, .string ⟨#[]⟩, .int .i64 0, .int .i64 0, .string ⟨#[]⟩, .int .i64 (i : Int), .int .i64 ln, .int .i64 cl] 45 (0, 0)) := X5
      replace B5 := B5.setCell (p := ⟨w.heap.size, 0, none⟩) (Nat.le_refl _) (.int .i64 1)
      replace L5 := Lib.hid (HL.out.next B5)
      clear k0 k1 k2 k3 k4 k5 k6 k7 z0 z1 z2 z3 z4 z5 z6 z7
      generalize (w5.setCell ⟨w.heap.size, 0, none⟩ (.int .i64 1)) = W5 at *
      have hT1 : w.heap.size < (W5).heap.size := (Array.getElem?_eq_some_iff.1 X5).1
      refine (pass_any g s i k (W5) L5.out hk).mono ?_; rintro e w6 ⟨rfl, l6, g6⟩
      have X6 := (g6.block w.heap.size hT1 (by simp; omega)).trans X5
      obtain ⟨k0, k1, k2, k3, k4, k5, k6, k7⟩ := cells8 X6
      obtain ⟨z0, z1, z2, z3, z4, z5, z6, z7⟩ := frozen8 X6
      have T6 : TkI w g s (i + k) w6 := ⟨l6, gb_trans (gb_below B5 _) g6⟩
      clear X5 L5 B5 g6 l6
      go_wp2_with fail
      refine bodyPost_ret (v := .tuple #[.agg (tkCells 1 ((s.drop i).take k) zeroV s i).toArray, .int .i64 0, .int .i64 0]) (by simp [results, Try.results38, go_sem, tkCells, k0, k1, k2, k3, k4, k5, k6, k7, HC.out, HLN.out, zeroV]) rfl ?_
      rw [HT.out]
      refine ⟨rfl, ?_⟩
      repeat (first | (with_reducible assumption) | refine tki_set ?_ (Nat.le_refl _) hgl)
end Go.Proofs.Ytpodniljpinigaa.X
