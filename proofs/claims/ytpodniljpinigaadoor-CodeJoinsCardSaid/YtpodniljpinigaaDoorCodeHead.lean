/- The contracts of code.head and of the reference's Head. -/
import Derived.Test.YtpodniljpinigaaDoorCodePrintA
namespace Go.Proofs.YtpodniljpinigaaDoor.C
open Go.RowKit O V

/-- What a reader of a first line hands back: o is its answer. -/
def RetH (o : Option (Int × Int × Int)) (e : Ending) : Prop := ∃ r l k f, e = .returned (.tuple #[cdV none 0 0 r l k, .bool f]) ∧ o = if f = true then some (r, l, k) else none
theorem head_four {s x a b d : List UInt8} (h : piecesL 32 s = [x, a, b, d]) : headM s = if headL (num a) (num b) (num d) = s ∧ inB (num a) ∧ inB (num b) ∧ inB (num d) then some (num a, num b, num d) else none := by
  have hc : cutL 32 s = ([x, a, b], d) := by
    unfold piecesL at h
    obtain ⟨h1, h2⟩ := List.append_inj' (show (cutL 32 s).1 ++ [(cutL 32 s).2] = [x, a, b] ++ [d] from h) rfl
    exact Prod.ext h1 (by simpa using h2)
  unfold headM
  rw [hc]
theorem head_few {s : List UInt8} (h : (piecesL 32 s).length ≠ 4) : headM s = none := by
  unfold headM
  split
  · rename_i hc
    unfold piecesL at h
    rw [hc] at h
    simp at h
  · rfl
theorem four {α : Type} {p : List α} (h : p.length = 4) : ∃ x a b d, p = [x, a, b, d] := by
  match p, h with
  | [x, a, b, d], _ => exact ⟨x, a, b, d, rfl⟩
theorem pieces_le (c : UInt8) (s : List UInt8) : ∀ l ∈ piecesL c s, l.length ≤ s.length := by
  intro l hl
  obtain ⟨_, h2, h3⟩ := cutL_len c s
  unfold piecesL at hl
  rcases List.mem_append.1 hl with h | h
  · exact h3 l h
  · rw [List.mem_singleton] at h; rw [h]; exact h2
theorem printA_nil (r l k : Int) : printA ⟨r, l, k, []⟩ = headL r l k ++ [10] := by simp [printA, rowsL]
theorem same4 {W : World} {b : Nat} {v0 v1 v2 v3 : Value} {T : TypeId} (h : W.heap[b]? = some (.cells #[v0, v1, v2, v3] T (0, 0))) : ((((W.setCell ⟨b, 0, none⟩ v0).setCell ⟨b, 1, none⟩ v1).setCell ⟨b, 2, none⟩ v2).setCell ⟨b, 3, none⟩ v3).heap[b]? = some (.cells #[v0, v1, v2, v3] T (0, 0)) := by
  have := heap_setC (i := 3) (heap_setC (i := 2) (heap_setC (i := 1) (heap_setC (i := 0) h v0) v1) v2) v3
  simpa using this
set_option maxHeartbeats 4000000 in
set_option maxRecDepth 100000 in
theorem chead_any (s : List UInt8) (w : World) (hs : s.length ≤ 100000) : Calls Tryd.prog 21 #[.string ⟨s.toArray⟩] w fun e w' => RetH (headM s) e ∧ Below w.heap.size w w' := by
  have hsz : (ByteArray.mk s.toArray).size = s.length := by simp [ByteArray.size]
  have hpl := pieces_len 32 s
  have X1 := heap_alloc_new w (.cells #[.slice none 0 0, .int .i64 0, .int .i64 0, .int .i64 0] 24)
  have W1 : Below w.heap.size w (w.alloc (.cells #[.slice none 0 0, .int .i64 0, .int .i64 0, .int .i64 0] 24)) := (Below.refl _ _).alloc (Nat.le_refl _) _
  go_enter Tryd.func21, Tryd.ntmps21
  go_wp2_with fail
  generalize (w.alloc (.cells #[.slice none 0 0, .int .i64 0, .int .i64 0, .int .i64 0] 24)) = V1 at *
  have hg1 : w.heap.size < V1.heap.size := (Array.getElem?_eq_some_iff.1 X1).1
  refine (ssplit_any s 32 _ (by omega)).mono ?_; rintro e w2 ⟨rfl, rfl⟩
  have B2 : Below V1.heap.size V1 (V1.alloc (.cells ((piecesL 32 s).map strV).toArray 9)) := (Below.refl _ _).alloc (Nat.le_refl _) _
  have P2 := heap_alloc_new V1 (.cells ((piecesL 32 s).map strV).toArray 9)
  have X2 := box_next X1 B2
  have W2 := bthen W1 B2
  by_cases h4 : s.count 32 + 1 = 4
  · rw [h4]
    obtain ⟨x, a, b, d, hp⟩ := four (hpl.trans h4)
    have hfour := Lib.hid (head_four hp)
    have hle := pieces_le 32 s
    rw [hp] at hle P2 X2 W2 ⊢
    have ha := hle a (by simp)
    have hb := hle b (by simp)
    have hd := hle d (by simp)
    clear hle h4 hpl hp X1 W1 B2
    generalize V1.alloc (.cells ([x, a, b, d].map strV).toArray 9) = V2 at *
    have HP2 := Lib.hid P2
    have HX2 := Lib.hid X2
    have HW2 := Lib.hid W2
    have hg2 : V1.heap.size < V2.heap.size := (Array.getElem?_eq_some_iff.1 P2).1
    clear P2 X2 W2
    generalize V1.heap.size = g1 at *
    go_wp2_with fail
    refine wp_region_schedB [g1] [(0, true), (1, true), (2, true), (4, true), (5, true), (6, true), (8, true), (9, true), (10, true), (3, false), (12, true), (7, false), (11, false), (13, false), (14, true), (15, false), (16, true), (17, false)] (by kernel_rfl) (by kernel_rfl) (fun _ _ d _ _ h => by cases d <;> exact h) ?_
    refine bwith (fun W hW => (cells4d (hW.one HP2.out))) (fun q => ?_)
    repeat (first | (refine sreadxB rfl rfl ?_; apply Exists.intro; apply And.intro; (· (intro W hW; first | (go_simp; done) | (go_simp; with_reducible rfl) | (go_simp; rw [if_neg (by omega)]; done) | (go_simp; rw [if_neg (by omega)]; with_reducible rfl))); simp only [Act.put, List.setIfInBounds_toArray, List.set_cons_zero, List.set_cons_succ]) | (refine bskip rfl rfl ?_; simp only [Act.put, List.setIfInBounds_toArray, List.set_cons_zero, List.set_cons_succ]))
    refine bcall rfl rfl (fun K hK => ?_)
    go_simp
    refine (number_c a _ (by omega)).mono ?_; rintro e w3 ⟨rfl, b3⟩
    go_wp2_with fail
    refine hK.out _ _ (by exact KB.of_below b3 (fun k hk => by simp at hk; subst hk; exact hg2)) ?_
    clear hK K
    try simp only [Act.put, List.setIfInBounds_toArray, List.set_cons_zero, List.set_cons_succ]
    have s3 := b3.size
    repeat (first | (refine sreadxB rfl rfl ?_; apply Exists.intro; apply And.intro; (· (intro W hW; first | (go_simp; done) | (go_simp; with_reducible rfl) | (go_simp; rw [if_neg (by omega)]; done) | (go_simp; rw [if_neg (by omega)]; with_reducible rfl))); simp only [Act.put, List.setIfInBounds_toArray, List.set_cons_zero, List.set_cons_succ]) | (refine bskip rfl rfl ?_; simp only [Act.put, List.setIfInBounds_toArray, List.set_cons_zero, List.set_cons_succ]))
    refine bcall rfl rfl (fun K hK => ?_)
    go_simp
    refine (number_c b _ (by omega)).mono ?_; rintro e w4 ⟨rfl, b4⟩
    go_wp2_with fail
    refine hK.out _ _ (by exact KB.of_below b4 (fun k hk => by simp at hk; subst hk; simp at s3; omega)) ?_
    clear hK K
    try simp only [Act.put, List.setIfInBounds_toArray, List.set_cons_zero, List.set_cons_succ]
    have s4 := b4.size
    repeat (first | (refine sreadxB rfl rfl ?_; apply Exists.intro; apply And.intro; (· (intro W hW; first | (go_simp; done) | (go_simp; with_reducible rfl) | (go_simp; rw [if_neg (by omega)]; done) | (go_simp; rw [if_neg (by omega)]; with_reducible rfl))); simp only [Act.put, List.setIfInBounds_toArray, List.set_cons_zero, List.set_cons_succ]) | (refine bskip rfl rfl ?_; simp only [Act.put, List.setIfInBounds_toArray, List.set_cons_zero, List.set_cons_succ]))
    refine bcall rfl rfl (fun K hK => ?_)
    go_simp
    refine (number_c d _ (by omega)).mono ?_; rintro e w5 ⟨rfl, b5⟩
    go_wp2_with fail
    refine hK.out _ _ (by exact KB.of_below b5 (fun k hk => by simp at hk; subst hk; simp at s3; omega)) ?_
    clear hK K
    try simp only [Act.put, List.setIfInBounds_toArray, List.set_cons_zero, List.set_cons_succ]
    have b25 := bthen (bthen b3 b4) b5
    have HX5 := Lib.hid (box_next (show V2.drew.heap[w.heap.size]? = _ from HX2.out) b25)
    have HW5 := Lib.hid (HW2.out.drew.trans (b25.mono HW2.out.size))
    have hg5 : w.heap.size < w5.heap.size := (Array.getElem?_eq_some_iff.1 HX5.out).1
    clear b3 b4 b5 b25 q s3 s4 HX2 HW2
    obtain ⟨x0, x1, x2, x3⟩ := cells4d HX5.out
    obtain ⟨f0, f1, f2, f3⟩ := frozen4d HX5.out
    repeat (first | (refine sreadxB rfl rfl ?_; apply Exists.intro; apply And.intro; (· (intro W hW; first | (go_simp; done) | (go_simp; with_reducible rfl) | (go_simp; rw [if_neg (by omega)]; done) | (go_simp; rw [if_neg (by omega)]; with_reducible rfl))); simp only [Act.put, List.setIfInBounds_toArray, List.set_cons_zero, List.set_cons_succ]) | (refine bskip rfl rfl ?_; simp only [Act.put, List.setIfInBounds_toArray, List.set_cons_zero, List.set_cons_succ]))
    refine bcall rfl rfl (fun K hK => ?_)
    go_simp
    refine hK.out _ _ (fun k hk => ?_) ?_
    · simp at hk; subst hk
      exact Below.heap_setCell _ _ _ _ (Nat.ne_of_gt hg1)
    clear hK K
    try simp only [Act.put, List.setIfInBounds_toArray, List.set_cons_zero, List.set_cons_succ]
    repeat (first | (refine sreadxB rfl rfl ?_; apply Exists.intro; apply And.intro; (· (intro W hW; first | (go_simp; done) | (go_simp; with_reducible rfl) | (go_simp; rw [if_neg (by omega)]; done) | (go_simp; rw [if_neg (by omega)]; with_reducible rfl))); simp only [Act.put, List.setIfInBounds_toArray, List.set_cons_zero, List.set_cons_succ]) | (refine bskip rfl rfl ?_; simp only [Act.put, List.setIfInBounds_toArray, List.set_cons_zero, List.set_cons_succ]))
    refine bcall rfl rfl (fun K hK => ?_)
    go_simp
    refine hK.out _ _ (fun k hk => ?_) ?_
    · simp at hk; subst hk
      exact Below.heap_setCell _ _ _ _ (Nat.ne_of_gt hg1)
    clear hK K
    try simp only [Act.put, List.setIfInBounds_toArray, List.set_cons_zero, List.set_cons_succ]
    repeat (first | (refine sreadxB rfl rfl ?_; apply Exists.intro; apply And.intro; (· (intro W hW; first | (go_simp; done) | (go_simp; with_reducible rfl) | (go_simp; rw [if_neg (by omega)]; done) | (go_simp; rw [if_neg (by omega)]; with_reducible rfl))); simp only [Act.put, List.setIfInBounds_toArray, List.set_cons_zero, List.set_cons_succ]) | (refine bskip rfl rfl ?_; simp only [Act.put, List.setIfInBounds_toArray, List.set_cons_zero, List.set_cons_succ]))
    refine bcall rfl rfl (fun K hK => ?_)
    go_simp
    refine hK.out _ _ (fun k hk => ?_) ?_
    · simp at hk; subst hk
      exact Below.heap_setCell _ _ _ _ (Nat.ne_of_gt hg1)
    clear hK K
    try simp only [Act.put, List.setIfInBounds_toArray, List.set_cons_zero, List.set_cons_succ]
    refine bdone ?_
    have HX8 : Hid ((((w5.setCell ⟨w.heap.size, 1, none⟩ (.int .i64 (num a))).setCell ⟨w.heap.size, 2, none⟩ (.int .i64 (num b))).setCell ⟨w.heap.size, 3, none⟩ (.int .i64 (num d))).heap[w.heap.size]? = some (.cells #[.slice none 0 0, .int .i64 (num a), .int .i64 (num b), .int .i64 (num d)] 24 (0, 0))) := Lib.hid (by
      have := heap_setC (i := 3) (heap_setC (i := 2) (heap_setC (i := 1) HX5.out (.int .i64 (num a))) (.int .i64 (num b))) (.int .i64 (num d))
      simpa using this)
    have HW8 : Hid (Below w.heap.size w (((w5.setCell ⟨w.heap.size, 1, none⟩ (.int .i64 (num a))).setCell ⟨w.heap.size, 2, none⟩ (.int .i64 (num b))).setCell ⟨w.heap.size, 3, none⟩ (.int .i64 (num d)))) := Lib.hid (((HW5.out.setCell (Nat.le_refl _) _).setCell (Nat.le_refl _) _).setCell (Nat.le_refl _) _)
    generalize ((w5.setCell ⟨w.heap.size, 1, none⟩ (.int .i64 (num a))).setCell ⟨w.heap.size, 2, none⟩ (.int .i64 (num b))).setCell ⟨w.heap.size, 3, none⟩ (.int .i64 (num d)) = W8 at *
    have hg8 : w.heap.size < W8.heap.size := (Array.getElem?_eq_some_iff.1 HX8.out).1
    clear x0 x1 x2 x3 f0 f1 f2 f3 HX5 HW5 hg5 HP2 hg2
    have fa := num_fit a
    have fb := num_fit b
    have fd := num_fit d
    generalize num a = na at *
    generalize num b = nb at *
    generalize num d = nd at *
    go_wp2_with fail
    refine wp_region_schedB [w.heap.size] [(0, true), (1, true), (3, true), (4, true), (2, false), (5, true), (6, true), (7, true), (8, true), (9, true), (10, true), (11, true), (12, true), (13, true), (14, true), (15, true), (16, true), (17, true), (18, true), (19, true), (20, true), (21, true), (22, true), (23, true), (24, true), (25, true), (26, false), (27, true)] (by kernel_rfl) (by kernel_rfl) (fun _ _ d _ _ h => by cases d <;> exact h) ?_
    refine bwith (fun W hW => (cells4d (hW.one HX8.out))) (fun q => ?_)
    repeat (first | (refine sreadxB rfl rfl ?_; apply Exists.intro; apply And.intro; (· (intro W hW; first | (go_simp; done) | (go_simp; with_reducible rfl) | (go_simp; rw [if_neg (by omega)]; done) | (go_simp; rw [if_neg (by omega)]; with_reducible rfl))); simp only [Act.put, List.setIfInBounds_toArray, List.set_cons_zero, List.set_cons_succ]) | (refine bskip rfl rfl ?_; simp only [Act.put, List.setIfInBounds_toArray, List.set_cons_zero, List.set_cons_succ]))
    refine bcall rfl rfl (fun K hK => ?_)
    go_simp
    refine (cprintA_any none 0 0 na nb nd [] _ (IRow.nil _ _) (by omega) (by simp) fa fb fd).mono ?_; rintro e w9 ⟨rfl, b9⟩
    go_wp2_with fail
    refine hK.out _ _ (by exact KB.of_below b9 (fun k hk => by simp at hk; subst hk; exact hg8)) ?_
    clear hK K
    try simp only [Act.put, List.setIfInBounds_toArray, List.set_cons_zero, List.set_cons_succ]
    rw [printA_nil]
    have HX9 := Lib.hid (box_next (show W8.drew.heap[w.heap.size]? = _ from HX8.out) b9)
    have HW9 := Lib.hid (HW8.out.drew.trans (b9.mono HW8.out.size))
    have hh := head_len fa fb fd
    clear b9 q HX8 HW8
    obtain ⟨x0, x1, x2, x3⟩ := cells4d HX9.out
    obtain ⟨f0, f1, f2, f3⟩ := frozen4d HX9.out
    generalize headL na nb nd = pl at *
    by_cases h1 : pl = s
    · have e1 : (pl ++ [10] == s ++ [10]) = true := by rw [h1]; simp
      have ec := cat10 s
      refine bwith (fun W hW => (cells4d (hW.one HX9.out))) (fun q => ?_)
      by_cases hm : 0 ≤ (if nd < if nb < na then nb else na then nd else if nb < na then nb else na)
      · have c1 := decide_eq_true hm
        by_cases hx : (if (if na < nb then nb else na) < nd then nd else if na < nb then nb else na) ≤ 1000000
        · have c2 := decide_eq_true hx
          have hfin : headM s = if true = true then some (na, nb, nd) else none := by
            rw [hfour.out, if_pos ⟨h1, by unfold inB; split at hm <;> split at hm <;> split at hx <;> split at hx <;> omega, by unfold inB; split at hm <;> split at hm <;> split at hx <;> split at hx <;> omega, by unfold inB; split at hm <;> split at hm <;> split at hx <;> split at hx <;> omega⟩, if_pos rfl]
          have HF := Lib.hid hfin
          clear hfin
          repeat (first | (refine sreadxB rfl rfl ?_; apply Exists.intro; apply And.intro; (· (intro W hW; first | (go_simp; done) | (go_simp; with_reducible rfl) | (go_simp; rw [if_neg (by omega)]; done) | (go_simp; rw [if_neg (by omega)]; with_reducible rfl))); simp only [Act.put, List.setIfInBounds_toArray, List.set_cons_zero, List.set_cons_succ]) | (refine bskip rfl rfl ?_; simp only [Act.put, List.setIfInBounds_toArray, List.set_cons_zero, List.set_cons_succ]))
          refine bcall rfl rfl (fun K hK => ?_)
          go_simp
          refine hK.out _ _ (fun k hk => ?_) ?_
          · simp at hk; subst hk
            exact (same4 HX9.out).trans HX9.out.symm
          clear hK K
          try simp only [Act.put, List.setIfInBounds_toArray, List.set_cons_zero, List.set_cons_succ]
          repeat (first | (refine sreadxB rfl rfl ?_; apply Exists.intro; apply And.intro; (· (intro W hW; first | (go_simp; done) | (go_simp; with_reducible rfl) | (go_simp; rw [if_neg (by omega)]; done) | (go_simp; rw [if_neg (by omega)]; with_reducible rfl))); simp only [Act.put, List.setIfInBounds_toArray, List.set_cons_zero, List.set_cons_succ]) | (refine bskip rfl rfl ?_; simp only [Act.put, List.setIfInBounds_toArray, List.set_cons_zero, List.set_cons_succ]))
          refine bdone ?_
          have HX10 := same4 HX9.out
          have HW10 : Below w.heap.size w ((((w9.setCell ⟨w.heap.size, 0, none⟩ (.slice none 0 0)).setCell ⟨w.heap.size, 1, none⟩ (.int .i64 na)).setCell ⟨w.heap.size, 2, none⟩ (.int .i64 nb)).setCell ⟨w.heap.size, 3, none⟩ (.int .i64 nd)) := (((HW9.out.setCell (Nat.le_refl _) _).setCell (Nat.le_refl _) _).setCell (Nat.le_refl _) _).setCell (Nat.le_refl _) _
          generalize (((w9.setCell ⟨w.heap.size, 0, none⟩ (.slice none 0 0)).setCell ⟨w.heap.size, 1, none⟩ (.int .i64 na)).setCell ⟨w.heap.size, 2, none⟩ (.int .i64 nb)).setCell ⟨w.heap.size, 3, none⟩ (.int .i64 nd) = W10 at *
          obtain ⟨y0, y1, y2, y3⟩ := cells4d HX10
          clear q x0 x1 x2 x3 f0 f1 f2 f3
          try clear c1 c2
          try clear hm
          try clear hx
          try clear c1
          try generalize (if nd < if nb < na then nb else na then nd else if nb < na then nb else na) = mn
          try generalize (if (if na < nb then nb else na) < nd then nd else if na < nb then nb else na) = mx
          go_wp2_with fail
          refine bodyPost_ret (v := .tuple #[cdV none 0 0 na nb nd, .bool true]) (by simp [results, Tryd.results21, go_sem, cdV, y0, y1, y2, y3]) rfl ?_
          exact ⟨⟨na, nb, nd, true, rfl, HF.out⟩, HW10⟩
        · have c2 := decide_eq_false hx
          have hfin : headM s = if false = true then some (na, nb, nd) else none := by
            rw [hfour.out, if_neg (fun h => by obtain ⟨_, h2, h3, h4⟩ := h; unfold inB at h2 h3 h4; split at hx <;> split at hx <;> omega), if_neg (by decide)]
          have HF := Lib.hid hfin
          clear hfin
          repeat (first | (refine sreadxB rfl rfl ?_; apply Exists.intro; apply And.intro; (· (intro W hW; first | (go_simp; done) | (go_simp; with_reducible rfl) | (go_simp; rw [if_neg (by omega)]; done) | (go_simp; rw [if_neg (by omega)]; with_reducible rfl))); simp only [Act.put, List.setIfInBounds_toArray, List.set_cons_zero, List.set_cons_succ]) | (refine bskip rfl rfl ?_; simp only [Act.put, List.setIfInBounds_toArray, List.set_cons_zero, List.set_cons_succ]))
          refine bcall rfl rfl (fun K hK => ?_)
          go_simp
          refine hK.out _ _ (fun k hk => ?_) ?_
          · simp at hk; subst hk
            exact (same4 HX9.out).trans HX9.out.symm
          clear hK K
          try simp only [Act.put, List.setIfInBounds_toArray, List.set_cons_zero, List.set_cons_succ]
          repeat (first | (refine sreadxB rfl rfl ?_; apply Exists.intro; apply And.intro; (· (intro W hW; first | (go_simp; done) | (go_simp; with_reducible rfl) | (go_simp; rw [if_neg (by omega)]; done) | (go_simp; rw [if_neg (by omega)]; with_reducible rfl))); simp only [Act.put, List.setIfInBounds_toArray, List.set_cons_zero, List.set_cons_succ]) | (refine bskip rfl rfl ?_; simp only [Act.put, List.setIfInBounds_toArray, List.set_cons_zero, List.set_cons_succ]))
          refine bdone ?_
          have HX10 := same4 HX9.out
          have HW10 : Below w.heap.size w ((((w9.setCell ⟨w.heap.size, 0, none⟩ (.slice none 0 0)).setCell ⟨w.heap.size, 1, none⟩ (.int .i64 na)).setCell ⟨w.heap.size, 2, none⟩ (.int .i64 nb)).setCell ⟨w.heap.size, 3, none⟩ (.int .i64 nd)) := (((HW9.out.setCell (Nat.le_refl _) _).setCell (Nat.le_refl _) _).setCell (Nat.le_refl _) _).setCell (Nat.le_refl _) _
          generalize (((w9.setCell ⟨w.heap.size, 0, none⟩ (.slice none 0 0)).setCell ⟨w.heap.size, 1, none⟩ (.int .i64 na)).setCell ⟨w.heap.size, 2, none⟩ (.int .i64 nb)).setCell ⟨w.heap.size, 3, none⟩ (.int .i64 nd) = W10 at *
          obtain ⟨y0, y1, y2, y3⟩ := cells4d HX10
          clear q x0 x1 x2 x3 f0 f1 f2 f3
          try clear c1 c2
          try clear hm
          try clear hx
          try clear c1
          try generalize (if nd < if nb < na then nb else na then nd else if nb < na then nb else na) = mn
          try generalize (if (if na < nb then nb else na) < nd then nd else if na < nb then nb else na) = mx
          go_wp2_with fail
          refine bodyPost_ret (v := .tuple #[cdV none 0 0 na nb nd, .bool false]) (by simp [results, Tryd.results21, go_sem, cdV, y0, y1, y2, y3]) rfl ?_
          exact ⟨⟨na, nb, nd, false, rfl, HF.out⟩, HW10⟩
      · have c1 := decide_eq_false hm
        have hfin : headM s = if false = true then some (na, nb, nd) else none := by
          rw [hfour.out, if_neg (fun h => by obtain ⟨_, h2, h3, h4⟩ := h; unfold inB at h2 h3 h4; split at hm <;> split at hm <;> omega), if_neg (by decide)]
        have HF := Lib.hid hfin
        clear hfin
        repeat (first | (refine sreadxB rfl rfl ?_; apply Exists.intro; apply And.intro; (· (intro W hW; first | (go_simp; done) | (go_simp; with_reducible rfl) | (go_simp; rw [if_neg (by omega)]; done) | (go_simp; rw [if_neg (by omega)]; with_reducible rfl))); simp only [Act.put, List.setIfInBounds_toArray, List.set_cons_zero, List.set_cons_succ]) | (refine bskip rfl rfl ?_; simp only [Act.put, List.setIfInBounds_toArray, List.set_cons_zero, List.set_cons_succ]))
        refine bcall rfl rfl (fun K hK => ?_)
        go_simp
        refine hK.out _ _ (fun k hk => ?_) ?_
        · simp at hk; subst hk
          exact (same4 HX9.out).trans HX9.out.symm
        clear hK K
        try simp only [Act.put, List.setIfInBounds_toArray, List.set_cons_zero, List.set_cons_succ]
        repeat (first | (refine sreadxB rfl rfl ?_; apply Exists.intro; apply And.intro; (· (intro W hW; first | (go_simp; done) | (go_simp; with_reducible rfl) | (go_simp; rw [if_neg (by omega)]; done) | (go_simp; rw [if_neg (by omega)]; with_reducible rfl))); simp only [Act.put, List.setIfInBounds_toArray, List.set_cons_zero, List.set_cons_succ]) | (refine bskip rfl rfl ?_; simp only [Act.put, List.setIfInBounds_toArray, List.set_cons_zero, List.set_cons_succ]))
        refine bdone ?_
        have HX10 := same4 HX9.out
        have HW10 : Below w.heap.size w ((((w9.setCell ⟨w.heap.size, 0, none⟩ (.slice none 0 0)).setCell ⟨w.heap.size, 1, none⟩ (.int .i64 na)).setCell ⟨w.heap.size, 2, none⟩ (.int .i64 nb)).setCell ⟨w.heap.size, 3, none⟩ (.int .i64 nd)) := (((HW9.out.setCell (Nat.le_refl _) _).setCell (Nat.le_refl _) _).setCell (Nat.le_refl _) _).setCell (Nat.le_refl _) _
        generalize (((w9.setCell ⟨w.heap.size, 0, none⟩ (.slice none 0 0)).setCell ⟨w.heap.size, 1, none⟩ (.int .i64 na)).setCell ⟨w.heap.size, 2, none⟩ (.int .i64 nb)).setCell ⟨w.heap.size, 3, none⟩ (.int .i64 nd) = W10 at *
        obtain ⟨y0, y1, y2, y3⟩ := cells4d HX10
        clear q x0 x1 x2 x3 f0 f1 f2 f3
        try clear c1 c2
        try clear hm
        try clear hx
        try clear c1
        try generalize (if nd < if nb < na then nb else na then nd else if nb < na then nb else na) = mn
        try generalize (if (if na < nb then nb else na) < nd then nd else if na < nb then nb else na) = mx
        go_wp2_with fail
        refine bodyPost_ret (v := .tuple #[cdV none 0 0 na nb nd, .bool false]) (by simp [results, Tryd.results21, go_sem, cdV, y0, y1, y2, y3]) rfl ?_
        exact ⟨⟨na, nb, nd, false, rfl, HF.out⟩, HW10⟩
    · have e1 : (pl ++ [10] == s ++ [10]) = false := by simpa using h1
      have ec := cat10 s
      refine bwith (fun W hW => (cells4d (hW.one HX9.out))) (fun q => ?_)
      have hfin : headM s = if false = true then some (na, nb, nd) else none := by
        rw [hfour.out, if_neg (fun h => h1 h.1), if_neg (by decide)]
      have HF := Lib.hid hfin
      clear hfin
      repeat (first | (refine sreadxB rfl rfl ?_; apply Exists.intro; apply And.intro; (· (intro W hW; first | (go_simp; done) | (go_simp; with_reducible rfl) | (go_simp; rw [if_neg (by omega)]; done) | (go_simp; rw [if_neg (by omega)]; with_reducible rfl))); simp only [Act.put, List.setIfInBounds_toArray, List.set_cons_zero, List.set_cons_succ]) | (refine bskip rfl rfl ?_; simp only [Act.put, List.setIfInBounds_toArray, List.set_cons_zero, List.set_cons_succ]))
      refine bcall rfl rfl (fun K hK => ?_)
      go_simp
      refine hK.out _ _ (fun k hk => ?_) ?_
      · simp at hk; subst hk
        exact (same4 HX9.out).trans HX9.out.symm
      clear hK K
      try simp only [Act.put, List.setIfInBounds_toArray, List.set_cons_zero, List.set_cons_succ]
      repeat (first | (refine sreadxB rfl rfl ?_; apply Exists.intro; apply And.intro; (· (intro W hW; first | (go_simp; done) | (go_simp; with_reducible rfl) | (go_simp; rw [if_neg (by omega)]; done) | (go_simp; rw [if_neg (by omega)]; with_reducible rfl))); simp only [Act.put, List.setIfInBounds_toArray, List.set_cons_zero, List.set_cons_succ]) | (refine bskip rfl rfl ?_; simp only [Act.put, List.setIfInBounds_toArray, List.set_cons_zero, List.set_cons_succ]))
      refine bdone ?_
      have HX10 := same4 HX9.out
      have HW10 : Below w.heap.size w ((((w9.setCell ⟨w.heap.size, 0, none⟩ (.slice none 0 0)).setCell ⟨w.heap.size, 1, none⟩ (.int .i64 na)).setCell ⟨w.heap.size, 2, none⟩ (.int .i64 nb)).setCell ⟨w.heap.size, 3, none⟩ (.int .i64 nd)) := (((HW9.out.setCell (Nat.le_refl _) _).setCell (Nat.le_refl _) _).setCell (Nat.le_refl _) _).setCell (Nat.le_refl _) _
      generalize (((w9.setCell ⟨w.heap.size, 0, none⟩ (.slice none 0 0)).setCell ⟨w.heap.size, 1, none⟩ (.int .i64 na)).setCell ⟨w.heap.size, 2, none⟩ (.int .i64 nb)).setCell ⟨w.heap.size, 3, none⟩ (.int .i64 nd) = W10 at *
      obtain ⟨y0, y1, y2, y3⟩ := cells4d HX10
      clear q x0 x1 x2 x3 f0 f1 f2 f3
      try clear c1 c2
      try clear hm
      try clear hx
      try clear c1
      try generalize (if nd < if nb < na then nb else na then nd else if nb < na then nb else na) = mn
      try generalize (if (if na < nb then nb else na) < nd then nd else if na < nb then nb else na) = mx
      go_wp2_with fail
      refine bodyPost_ret (v := .tuple #[cdV none 0 0 na nb nd, .bool false]) (by simp [results, Tryd.results21, go_sem, cdV, y0, y1, y2, y3]) rfl ?_
      exact ⟨⟨na, nb, nd, false, rfl, HF.out⟩, HW10⟩
  · have HN := Lib.hid (head_few (s := s) (by rw [hpl]; exact h4))
    have hml : s.count 32 + 1 ≤ 100001 := by have := List.count_le_length (a := (32 : UInt8)) (l := s); omega
    obtain ⟨m, hm⟩ : ∃ m, s.count 32 + 1 = m := ⟨_, rfl⟩
    rw [hm] at h4 hml ⊢
    have d1 : ((m : Int) != 4) = true := by simp; omega
    have d2 : ((m : Int) == 4) = false := by simp; omega
    clear hm hpl P2
    generalize V1.alloc (.cells ((piecesL 32 s).map strV).toArray 9) = V2 at *
    have HW2 := Lib.hid ((((W2.setCell (p := ⟨w.heap.size, 0, none⟩) (Nat.le_refl _) (.slice none 0 0)).setCell (p := ⟨w.heap.size, 1, none⟩) (Nat.le_refl _) (.int .i64 0)).setCell (p := ⟨w.heap.size, 2, none⟩) (Nat.le_refl _) (.int .i64 0)).setCell (p := ⟨w.heap.size, 3, none⟩) (Nat.le_refl _) (.int .i64 0))
    obtain ⟨x0, x1, x2, x3⟩ := cells4d X2
    obtain ⟨f0, f1, f2, f3⟩ := frozen4d X2
    clear X1 X2 W1 W2 B2
    go_wp2_with fail
    refine bodyPost_ret (v := .tuple #[cdV none 0 0 0 0 0, .bool false]) (by simp [results, Tryd.results21, go_sem, cdV, x0, x1, x2, x3]) rfl ?_
    exact ⟨⟨0, 0, 0, false, rfl, by rw [HN.out, if_neg (by decide)]⟩, HW2.out⟩
end Go.Proofs.YtpodniljpinigaaDoor.C
