/- The reference's log as a value, and the contracts of its functions. -/
import Derived.Test.YtkcehoejcklmfaaWalRef3
import Derived.Test.YtkcehoejcklmfaaDiskRef
import Derived.Test.YtkcehoejcklmfaaWalOpen
import Derived.Test.YtkcehoejcklmfaaDiskBox
namespace Go.Proofs.Ytkcehoejcklmfaa.L
open Go.RowKit O D K

/-- A log of the reference. -/
def LRefAt (w : World) (g : Nat) (r : Option Nat) (v : Value) (x : LS) : Prop :=
  ∃ A c A' c', v = .agg #[.int .i64 (x.s.room : Int), str x.s.sure, str x.s.rest, .slice A 2 c, .slice A' 2 c', .int .u32 (x.gen : Int), .int .i64 (x.kept : Int)] ∧ Two w g r A x.s.n0 x.s.n1 ∧ Two w g r A' x.s.s0 x.s.s1

theorem cells7 {w : World} {b : Nat} {x0 x1 x2 x3 x4 x5 x6 : Value} {t : TypeId} (h : w.heap[b]? = some (.cells #[x0, x1, x2, x3, x4, x5, x6] t (0, 0))) :
    (w.cell? ⟨b, 0, none⟩ = some x0 ∧ w.cell? ⟨b, 1, none⟩ = some x1 ∧ w.cell? ⟨b, 2, none⟩ = some x2 ∧ w.cell? ⟨b, 3, none⟩ = some x3 ∧ w.cell? ⟨b, 4, none⟩ = some x4 ∧ w.cell? ⟨b, 5, none⟩ = some x5 ∧ w.cell? ⟨b, 6, none⟩ = some x6) ∧
    (w.frozen? ⟨b, 0, none⟩ = false ∧ w.frozen? ⟨b, 1, none⟩ = false ∧ w.frozen? ⟨b, 2, none⟩ = false ∧ w.frozen? ⟨b, 3, none⟩ = false ∧ w.frozen? ⟨b, 4, none⟩ = false ∧ w.frozen? ⟨b, 5, none⟩ = false ∧ w.frozen? ⟨b, 6, none⟩ = false) := by
  have hc := fun j => cell_of_row w b j _ _ _ h
  exact ⟨⟨hc 0, hc 1, hc 2, hc 3, hc 4, hc 5, hc 6⟩, by simp [World.frozen?, h]⟩
def RetLE (g : Nat) (r : Option Nat) (x : LS) (n : Int) (w : World) (e : Ending) (w' : World) : Prop := ∃ v, e = .returned (.tuple #[v, .int .i64 n]) ∧ LRefAt w' g r v x ∧ Below w.heap.size w w'
section
variable {w w' : World} {g : Nat} {r r' : Option Nat} {x : LS} {v : Value}
theorem LRefAt.only (h : LRefAt w g r v x) (ho : Only g r w w') (hr : r' = r ∨ r' = none ∨ ∃ k, r' = some k ∧ w.heap.size ≤ k) : LRefAt w' g r' v x := by
  obtain ⟨A, c, A', c', e, h1, h2⟩ := h
  exact ⟨A, c, A', c', e, h1.only ho hr, h2.only ho hr⟩
theorem LRefAt.below (h : LRefAt w g r v x) (hb : Below w.heap.size w w') : LRefAt w' g r v x := h.only (.of_below hb) (.inl rfl)
theorem RetLE.mk {n : Int} (A : Option Addr) (c : Nat) (A' : Option Addr) (c' : Nat) (hb : Below w.heap.size w w') (h1 : Two w' g r A x.s.n0 x.s.n1) (h2 : Two w' g r A' x.s.s0 x.s.s1)
    (hv : v = .agg #[.int .i64 (x.s.room : Int), str x.s.sure, str x.s.rest, .slice A 2 c, .slice A' 2 c', .int .u32 (x.gen : Int), .int .i64 (x.kept : Int)]) : RetLE g r x n w (.returned (.tuple #[v, .int .i64 n])) w' := ⟨v, rfl, ⟨A, c, A', c', hv, h1, h2⟩, hb⟩
end
theorem RefAt.two {w : World} {g : Nat} {r : Option Nat} {s : St} {a b c d e : Value} (h : RefAt w g r (.agg #[a, b, c, d, e]) s) : ∃ A k A' k', a = .int .i64 (s.room : Int) ∧ b = str s.sure ∧ c = str s.rest ∧ d = .slice A 2 k ∧ e = .slice A' 2 k' ∧ Two w g r A s.n0 s.n1 ∧ Two w g r A' s.s0 s.s1 := by
  obtain ⟨A, k, A', k', e, h1, h2⟩ := h
  injection e with e
  simp at e
  obtain ⟨rfl, rfl, rfl, rfl, rfl⟩ := e
  exact ⟨A, k, A', k', rfl, rfl, rfl, rfl, rfl, h1, h2⟩

set_option maxRecDepth 100000 in
set_option maxHeartbeats 1000000 in
theorem rlfree_any {w : World} {g : Nat} {r : Option Nat} {x : LS} {v : Value} (h : LRefAt w g r v x) (ho : x.ok) :
    Calls Try.prog 57 #[v] w fun e w' => e = .returned (.int .i64 (x.free : Int)) ∧ Below w.heap.size w w' := by
  obtain ⟨A, c, A', c', rfl, h1, h2⟩ := h
  obtain ⟨o1, o2, o3⟩ := ho
  have o11 := o1.1
  have hw : IntKind.i64.wrap (((x.s.room : Int) - (x.s.log.length : Int)) - (x.kept : Int)) = (x.free : Int) := by
    have e : ((x.s.room : Int) - (x.s.log.length : Int)) - (x.kept : Int) = (x.free : Int) := by unfold LS.free; omega
    rw [e]
    exact IntWalk.i64_in _ (by unfold LS.free; omega)
  have hw0 : IntKind.i64.wrap ((x.s.room : Int) - (x.s.log.length : Int)) = (x.s.room : Int) - (x.s.log.length : Int) := IntWalk.i64_in _ (by omega)
  have hR : ∀ W, Below w.heap.size w W → RefAt W g r (.agg #[.int .i64 (x.s.room : Int), str x.s.sure, str x.s.rest, .slice A 2 c, .slice A' 2 c']) x.s := fun W b => ⟨A, c, A', c', rfl, h1.below b, h2.below b⟩
  have hn : ¬ ((x.free : Int) < 0) := by omega
  have Hh1 := Lib.hid h1; clear h1
  have Hh2 := Lib.hid h2; clear h2
  have HhR := Lib.hid hR; clear hR
  have Ho1 := Lib.hid o1; clear o1
  go_enter Try.func57, Try.ntmps57
  go_wp2_with fail
  refine wp_region_sched [(0, true), (1, true), (2, true), (3, true), (4, true), (8, true), (9, true), (5, false), (6, true), (7, true), (10, true), (11, true)] (by kernel_rfl) (by kernel_rfl) (fun _ _ d _ _ h => by cases d <;> exact h) ?_
  refine sbelow (w0 := w) (((Below.refl _ _).alloc (Nat.le_refl _) _).drew) (fun B0 => ?_)
  refine swith (fun W hW => (cells7 (blk_old hW.out (blk_new w _))).1) (fun q => ?_)
  repeat (first | (refine sreadx rfl rfl ?_; apply Exists.intro; apply And.intro; (· (intro W hW; first | (go_simp; done) | (go_simp; with_reducible rfl) | (go_simp; rw [if_neg (by omega)]; done) | (go_simp; rw [if_neg (by omega)]; with_reducible rfl))); simp only [Act.put, List.setIfInBounds_toArray, List.set_cons_zero, List.set_cons_succ]) | (refine sskip rfl rfl ?_; simp only [Act.put, List.setIfInBounds_toArray, List.set_cons_zero, List.set_cons_succ]))
  refine scall rfl rfl (fun K hK => ?_)
  go_simp
  refine (rlog_any (HhR.out _ B0) Ho1.out).mono ?_; rintro e w1 ⟨rfl, b1⟩
  go_wp2_with fail
  refine hK.out _ _ (by exact b1) ?_
  clear hK K
  try simp only [Act.put, List.setIfInBounds_toArray, List.set_cons_zero, List.set_cons_succ]
  replace q := fun (W : World) (hW : Grow w1 W) => q W (Grow.trans (b1) hW)
  repeat (first | (refine sreadx rfl rfl ?_; apply Exists.intro; apply And.intro; (· (intro W hW; first | (go_simp; done) | (go_simp; with_reducible rfl) | (go_simp; rw [if_neg (by omega)]; done) | (go_simp; rw [if_neg (by omega)]; with_reducible rfl))); simp only [Act.put, List.setIfInBounds_toArray, List.set_cons_zero, List.set_cons_succ]) | (refine sskip rfl rfl ?_; simp only [Act.put, List.setIfInBounds_toArray, List.set_cons_zero, List.set_cons_succ]))
  refine sdone ?_
  clear q
  go_wp2_with fail
  go_ret
  exact ⟨rfl, bthen B0 b1⟩

abbrev lc (x : LS) (A : Option Addr) (c : Nat) (A' : Option Addr) (c' : Nat) : Array Value := #[.int .i64 (x.s.room : Int), str x.s.sure, str x.s.rest, .slice A 2 c, .slice A' 2 c', .int .u32 (x.gen : Int), .int .i64 (x.kept : Int)]
/-- The log's box and the result's box. -/
def TwoB (w : World) (cs : Array Value) (W : World) : Prop := W.heap[w.heap.size]? = some (.cells cs 82 (0, 0)) ∧ W.heap[w.heap.size + 1]? = some (.cells #[.int .i64 0, str [], str [], .slice none 0 0, .slice none 0 0, .int .u32 0, .int .i64 0] 82 (0, 0)) ∧ Below w.heap.size w W
theorem TwoB.start (w : World) (cs : Array Value) : TwoB w cs ((w.alloc (.cells cs 82)).alloc (.cells #[.int .i64 0, str [], str [], .slice none 0 0, .slice none 0 0, .int .u32 0, .int .i64 0] 82)) :=
  ⟨blk_alloc (blk_new w _) _, by have := blk_new (w.alloc (.cells cs 82)) (.cells #[.int .i64 0, str [], str [], .slice none 0 0, .slice none 0 0, .int .u32 0, .int .i64 0] 82); simpa using this, ((Below.refl _ _).alloc (Nat.le_refl _) _).alloc (by simp) _⟩
theorem TwoB.next {w W W' : World} {cs : Array Value} (h : TwoB w cs W) (b : Below W.heap.size W W') : TwoB w cs W' := ⟨blk_old b h.1, blk_old b h.2.1, bthen h.2.2 b⟩

theorem noB2 {w : World} {N : Nat} {x : LS} {A A' : Option Addr} {c c' : Nat} (q1 : w.heap[N]? = some (.cells (lc x A c A' c') 82 (0, 0)))
    (q2 : w.heap[N + 1]? = some (.cells #[.int .i64 0, str [], str [], .slice none 0 0, .slice none 0 0, .int .u32 0, .int .i64 0] 82 (0, 0))) : ∀ k, N ≤ k → k < N + 2 → NoB w k := by
  intro k hk1 hk2
  have : k = N ∨ k = N + 1 := by omega
  rcases this with rfl | rfl
  · exact ⟨_, _, q1, by simp [noU8], by decide⟩
  · exact ⟨_, _, q2, by simp [noU8], by decide⟩

set_option maxRecDepth 100000 in
set_option maxHeartbeats 2000000 in
theorem rladd_any {w : World} {g : Nat} {r : Option Nat} {x : LS} {v : Value} (b : List UInt8) (h : LRefAt w g r v x) (ho : x.ok) (hlen : b.length ≤ 100000) :
    Calls Try.prog 76 #[v, .string ⟨b.toArray⟩, .bool false] w (RetLE g r (x.add b).1 (x.add b).2 w) := by
  have hF := fun W (b : Below w.heap.size w W) => rlfree_any (h.below b) ho
  obtain ⟨A, c, A', c', rfl, h1, h2⟩ := h
  obtain ⟨o1, o2, o3⟩ := ho
  have o11 := o1.1
  have hR : ∀ W, Below w.heap.size w W → RefAt W g r (.agg #[.int .i64 (x.s.room : Int), str x.s.sure, str x.s.rest, .slice A 2 c, .slice A' 2 c']) x.s := fun W b => ⟨A, c, A', c', rfl, h1.below b, h2.below b⟩
  have hfl : (frameL x.gen b).length ≤ 200000 := by
    have h10 := uintL_len10 b.length (by omega)
    rw [frameL_len, textL_len]
    omega
  have hfr : x.free ≤ 1048576 := by unfold LS.free; omega
  have hfit : (frameL x.gen b).length ≤ x.free → x.s.log.length + (frameL x.gen b).length ≤ x.s.room := by unfold LS.free; omega
  have hadd : x.add b = if x.free < (frameL x.gen b).length then (x, 4) else ({ x with s := (x.s.app (frameL x.gen b)).1 }, 0) := rfl
  have X0 := TwoB.start w (lc x A c A' c')
  have Hh1 := Lib.hid h1; clear h1
  have Hh2 := Lib.hid h2; clear h2
  have HhR := Lib.hid hR; clear hR
  have Ho1 := Lib.hid o1; clear o1
  have HhF := Lib.hid hF; clear hF
  have Hhadd := Lib.hid hadd; clear hadd
  have HX0 := Lib.hid X0; clear X0
  go_enter Try.func76, Try.ntmps76
  go_wp2_with fail
  refine (rframe_any x.gen b _ o2 (by omega)).mono ?_; rintro e w1 ⟨rfl, b1⟩
  have X1 := Lib.hid (HX0.out.next b1)
  clear b1 HX0
  obtain ⟨⟨a0, a1, a2, a3, a4, a5, a6⟩, -⟩ := cells7 X1.out.1
  obtain ⟨⟨d0, d1, d2, d3, d4, d5, d6⟩, e0, e1, e2, e3, e4, e5, e6⟩ := cells7 X1.out.2.1
  generalize hf : frameL x.gen b = f at *
  go_wp2_with fail
  refine (HhF.out _ X1.out.2.2).mono ?_; rintro e w2 ⟨rfl, b2⟩
  have X2 := Lib.hid (X1.out.next b2)
  clear b2 X1 a0 a1 a2 a3 a4 a5 a6 d0 d1 d2 d3 d4 d5 d6 e0 e1 e2 e3 e4 e5 e6
  obtain ⟨⟨a0, a1, a2, a3, a4, a5, a6⟩, z0, z1, z2, z3, z4, z5, z6⟩ := cells7 X2.out.1
  obtain ⟨⟨d0, d1, d2, d3, d4, d5, d6⟩, e0, e1, e2, e3, e4, e5, e6⟩ := cells7 X2.out.2.1
  have s2 := X2.out.2.2.size
  by_cases hlt : x.free < f.length
  · have hE : x.add b = (x, 4) := by rw [Hhadd.out, if_pos hlt]
    have HhE := Lib.hid hE; clear hE
    go_wp2_with fail
    refine bodyPost_ret (v := .tuple #[.agg (lc x A c A' c'), .int .i64 4]) (by simp [results, Try.results76, go_sem, d0, d1, d2, d3, d4, d5, d6]) rfl ?_
    rw [HhE.out]
    have bb := X2.out.2.2
    refine RetLE.mk A c A' c' ?_ (Hh1.out.below ?_) (Hh2.out.below ?_) rfl
    · repeat (first | (with_reducible exact bb) | ((with_reducible refine Below.setCell ?_ ?_ _); rotate_left; (· (simp <;> omega))) | ((with_reducible refine Below.alloc ?_ ?_ _); rotate_left; (· (simp <;> omega))) | (with_reducible refine Below.drew ?_))
    · repeat (first | (with_reducible exact bb) | ((with_reducible refine Below.setCell ?_ ?_ _); rotate_left; (· (simp <;> omega))) | ((with_reducible refine Below.alloc ?_ ?_ _); rotate_left; (· (simp <;> omega))) | (with_reducible refine Below.drew ?_))
    · repeat (first | (with_reducible exact bb) | ((with_reducible refine Below.setCell ?_ ?_ _); rotate_left; (· (simp <;> omega))) | ((with_reducible refine Below.alloc ?_ ?_ _); rotate_left; (· (simp <;> omega))) | (with_reducible refine Below.drew ?_))
  · have hfits := hfit (by omega)
    have ha := app_fits hfits
    have hE : x.add b = ({ x with s := { x.s with rest := x.s.rest ++ f } }, 0) := by rw [Hhadd.out, if_neg hlt, ha]
    have HhE := Lib.hid hE; clear hE
    have Hha := Lib.hid ha; clear ha
    go_wp2_with fail
    refine (rappend_any f (HhR.out _ X2.out.2.2) Ho1.out (by omega)).mono ?_; rintro e w3 ⟨v3, rfl, x3, b3⟩
    rw [Hha.out] at x3 ⊢
    obtain ⟨A3, c3, A3', c3', rfl, y1, y2⟩ := x3
    have X3 := Lib.hid (X2.out.next b3)
    clear b3 X2 a0 a1 a2 a3 a4 a5 a6 d0 d1 d2 d3 d4 d5 d6 e0 e1 e2 e3 e4 e5 e6 z0 z1 z2 z3 z4 z5 z6
    obtain ⟨⟨a0, a1, a2, a3, a4, a5, a6⟩, z0, z1, z2, z3, z4, z5, z6⟩ := cells7 X3.out.1
    obtain ⟨⟨d0, d1, d2, d3, d4, d5, d6⟩, e0, e1, e2, e3, e4, e5, e6⟩ := cells7 X3.out.2.1
    have s3 := X3.out.2.2.size
    have l3 := lt_of_block X3.out.2.1
    have l3' := lt_of_block X3.out.1
    have Hy1 := Lib.hid y1; clear y1
    have Hy2 := Lib.hid y2; clear y2
    go_wp2_with fail
    refine bodyPost_ret (v := .tuple #[.agg (lc { x with s := { x.s with rest := x.s.rest ++ f } } A3 c3 A3' c3'), .int .i64 0]) (by simp [results, Try.results76, go_sem, d0, d1, d2, d3, d4, d5, d6, l3]) rfl ?_
    rw [HhE.out]
    have bb := X3.out.2.2
    refine RetLE.mk (x := { x with s := { x.s with rest := x.s.rest ++ f } }) A3 c3 A3' c3' ?_ ?_ ?_ rfl
    · repeat (first | (with_reducible exact bb) | ((with_reducible refine Below.setCell ?_ ?_ _); rotate_left; (· (simp <;> omega))) | ((with_reducible refine Below.alloc ?_ ?_ _); rotate_left; (· (simp <;> omega))) | (with_reducible refine Below.drew ?_))
    · refine (Two.box Hy1.out (N := w.heap.size) (n := 2) ?_ (noB2 X3.out.1 X3.out.2.1)).below ((Below.refl _ _).alloc (Nat.le_refl _) _)
      repeat (first | (with_reducible exact Box.refl _ _ _) | ((with_reducible refine Box.setCell ?_ ?_ ?_ _); rotate_left; (· omega); (· omega)) | (with_reducible refine Box.drew ?_))
    · refine (Two.box Hy2.out (N := w.heap.size) (n := 2) ?_ (noB2 X3.out.1 X3.out.2.1)).below ((Below.refl _ _).alloc (Nat.le_refl _) _)
      repeat (first | (with_reducible exact Box.refl _ _ _) | ((with_reducible refine Box.setCell ?_ ?_ ?_ _); rotate_left; (· omega); (· omega)) | (with_reducible refine Box.drew ?_))
set_option maxRecDepth 100000 in
set_option maxHeartbeats 2000000 in
theorem rladdKept_any {w : World} {g : Nat} {r : Option Nat} {x : LS} {v : Value} (b : List UInt8) (h : LRefAt w g r v x) (ho : x.ok) (hlen : b.length ≤ 100000) :
    Calls Try.prog 76 #[v, .string ⟨b.toArray⟩, .bool true] w (RetLE g r (x.addKept b).1 (x.addKept b).2 w) := by
  obtain ⟨A, c, A', c', rfl, h1, h2⟩ := h
  obtain ⟨o1, o2, o3⟩ := ho
  have o11 := o1.1
  have hR : ∀ W, Below w.heap.size w W → RefAt W g r (.agg #[.int .i64 (x.s.room : Int), str x.s.sure, str x.s.rest, .slice A 2 c, .slice A' 2 c']) x.s := fun W b => ⟨A, c, A', c', rfl, h1.below b, h2.below b⟩
  have hfl : (frameL x.gen b).length ≤ 200000 := by
    have h10 := uintL_len10 b.length (by omega)
    rw [frameL_len, textL_len]
    omega
  have hfit : (frameL x.gen b).length ≤ x.kept → x.s.log.length + (frameL x.gen b).length ≤ x.s.room := by omega
  have hadd : x.addKept b = if x.kept < (frameL x.gen b).length then (x, 6) else ({ x with s := (x.s.app (frameL x.gen b)).1, kept := x.kept - (frameL x.gen b).length }, 0) := rfl
  have X0 := TwoB.start w (lc x A c A' c')
  have Hh1 := Lib.hid h1; clear h1
  have Hh2 := Lib.hid h2; clear h2
  have HhR := Lib.hid hR; clear hR
  have Ho1 := Lib.hid o1; clear o1
  have Hhadd := Lib.hid hadd; clear hadd
  have HX0 := Lib.hid X0; clear X0
  go_enter Try.func76, Try.ntmps76
  go_wp2_with fail
  refine (rframe_any x.gen b _ o2 (by omega)).mono ?_; rintro e w1 ⟨rfl, b1⟩
  have X1 := Lib.hid (HX0.out.next b1)
  clear b1 HX0
  generalize hf : frameL x.gen b = f at *
  obtain ⟨⟨a0, a1, a2, a3, a4, a5, a6⟩, z0, z1, z2, z3, z4, z5, z6⟩ := cells7 X1.out.1
  obtain ⟨⟨d0, d1, d2, d3, d4, d5, d6⟩, e0, e1, e2, e3, e4, e5, e6⟩ := cells7 X1.out.2.1
  have s2 := X1.out.2.2.size
  by_cases hlt : x.kept < f.length
  · have hE : x.addKept b = (x, 6) := by rw [Hhadd.out, if_pos hlt]
    have HhE := Lib.hid hE; clear hE
    go_wp2_with fail
    refine bodyPost_ret (v := .tuple #[.agg (lc x A c A' c'), .int .i64 6]) (by simp [results, Try.results76, go_sem, d0, d1, d2, d3, d4, d5, d6]) rfl ?_
    rw [HhE.out]
    have bb := X1.out.2.2
    refine RetLE.mk A c A' c' ?_ (Hh1.out.below ?_) (Hh2.out.below ?_) rfl
    · repeat (first | (with_reducible exact bb) | ((with_reducible refine Below.setCell ?_ ?_ _); rotate_left; (· (simp <;> omega))) | ((with_reducible refine Below.alloc ?_ ?_ _); rotate_left; (· (simp <;> omega))) | (with_reducible refine Below.drew ?_))
    · repeat (first | (with_reducible exact bb) | ((with_reducible refine Below.setCell ?_ ?_ _); rotate_left; (· (simp <;> omega))) | ((with_reducible refine Below.alloc ?_ ?_ _); rotate_left; (· (simp <;> omega))) | (with_reducible refine Below.drew ?_))
    · repeat (first | (with_reducible exact bb) | ((with_reducible refine Below.setCell ?_ ?_ _); rotate_left; (· (simp <;> omega))) | ((with_reducible refine Below.alloc ?_ ?_ _); rotate_left; (· (simp <;> omega))) | (with_reducible refine Below.drew ?_))
  · have hfits := hfit (by omega)
    have ha := app_fits hfits
    have hkk : ((x.kept : Int) - (f.length : Int)) = ((x.kept - f.length : Nat) : Int) := by omega
    have hE : x.addKept b = ({ x with s := { x.s with rest := x.s.rest ++ f }, kept := x.kept - f.length }, 0) := by rw [Hhadd.out, if_neg hlt, ha]
    have HhE := Lib.hid hE; clear hE
    have Hha := Lib.hid ha; clear ha
    go_wp2_with fail
    refine (rappend_any f (HhR.out _ X1.out.2.2) Ho1.out (by omega)).mono ?_; rintro e w3 ⟨v3, rfl, x3, b3⟩
    rw [Hha.out] at x3 ⊢
    obtain ⟨A3, c3, A3', c3', rfl, y1, y2⟩ := x3
    have X3 := Lib.hid (X1.out.next b3)
    clear b3 X1 a0 a1 a2 a3 a4 a5 a6 d0 d1 d2 d3 d4 d5 d6 e0 e1 e2 e3 e4 e5 e6 z0 z1 z2 z3 z4 z5 z6
    obtain ⟨⟨a0, a1, a2, a3, a4, a5, a6⟩, z0, z1, z2, z3, z4, z5, z6⟩ := cells7 X3.out.1
    obtain ⟨⟨d0, d1, d2, d3, d4, d5, d6⟩, e0, e1, e2, e3, e4, e5, e6⟩ := cells7 X3.out.2.1
    have s3 := X3.out.2.2.size
    have l3 := lt_of_block X3.out.2.1
    have l3' := lt_of_block X3.out.1
    have Hy1 := Lib.hid y1; clear y1
    have Hy2 := Lib.hid y2; clear y2
    go_wp2_with fail
    refine bodyPost_ret (v := .tuple #[.agg (lc { x with s := { x.s with rest := x.s.rest ++ f }, kept := x.kept - f.length } A3 c3 A3' c3'), .int .i64 0]) (by simp [results, Try.results76, go_sem, d0, d1, d2, d3, d4, d5, d6, l3]) rfl ?_
    rw [HhE.out]
    have bb := X3.out.2.2
    refine RetLE.mk (x := { x with s := { x.s with rest := x.s.rest ++ f }, kept := x.kept - f.length }) A3 c3 A3' c3' ?_ ?_ ?_ rfl
    · repeat (first | (with_reducible exact bb) | ((with_reducible refine Below.setCell ?_ ?_ _); rotate_left; (· (simp <;> omega))) | ((with_reducible refine Below.alloc ?_ ?_ _); rotate_left; (· (simp <;> omega))) | (with_reducible refine Below.drew ?_))
    · refine (Two.box Hy1.out (N := w.heap.size) (n := 2) ?_ (noB2 X3.out.1 X3.out.2.1)).below ((Below.refl _ _).alloc (Nat.le_refl _) _)
      repeat (first | (with_reducible exact Box.refl _ _ _) | ((with_reducible refine Box.setCell ?_ ?_ ?_ _); rotate_left; (· omega); (· omega)) | (with_reducible refine Box.drew ?_))
    · refine (Two.box Hy2.out (N := w.heap.size) (n := 2) ?_ (noB2 X3.out.1 X3.out.2.1)).below ((Below.refl _ _).alloc (Nat.le_refl _) _)
      repeat (first | (with_reducible exact Box.refl _ _ _) | ((with_reducible refine Box.setCell ?_ ?_ ?_ _); rotate_left; (· omega); (· omega)) | (with_reducible refine Box.drew ?_))
end Go.Proofs.Ytkcehoejcklmfaa.L
