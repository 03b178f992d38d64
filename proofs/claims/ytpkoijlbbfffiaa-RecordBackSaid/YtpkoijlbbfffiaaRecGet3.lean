/- The contracts of record's reader at changes. -/
import Derived.Test.YtpkoijlbbfffiaaRecGet2
namespace Go.Proofs.Ytpkoijlbbfffiaa.R
open Go.RowKit O V

theorem at_i (pre rest : List UInt8) (x : Int) (h1 : -9223372036854775808 ≤ x) (h2 : x ≤ 9223372036854775807) : getUAt (pre ++ (uintL (zig x) ++ rest)) ((pre.length : Nat) : Int) = some (zig x, (uintL (zig x)).length) := at_u pre rest (zig x) (zig_lt _ h1 h2)
/-- The row s lies anew (from the block B on) and holds a. -/
def OwnV (w : World) (B : Nat) (s : Sl) (a : List Val) : Prop := ∃ xs, w.ownsRow B 23 3 (.slice s.A s.n s.c) s.n xs ∧ Reps ValC a xs
theorem OwnV.row {w : World} {B : Nat} {s : Sl} {a : List Val} (h : OwnV w B s a) : VRow w s.A s.n s.c a := by
  obtain ⟨xs, h1, h2⟩ := h
  exact VRow.own h1 h2
theorem OwnV.grown {w w' : World} {B : Nat} {s : Sl} {a : List Val} {g : Nat} (h : OwnV w B s a) (hg : w.grownBy w' (some g)) (hb : g < B) : OwnV w' B s a := by
  obtain ⟨xs, h1, h2⟩ := h
  exact ⟨xs, own_keep h1 hg hb, h2⟩
theorem OwnV.below {w w' : World} {B : Nat} {s : Sl} {a : List Val} (h : OwnV w B s a) (hb : Below w.heap.size w w') : OwnV w' B s a := by
  obtain ⟨xs, h1, h2⟩ := h
  exact ⟨xs, own_below h1 hb, h2⟩
theorem OwnV.more {w : World} {B B' : Nat} {s : Sl} {a : List Val} (h : OwnV w B s a) (hb : B' ≤ B) : OwnV w B' s a := by
  obtain ⟨xs, h1, h2⟩ := h
  exact ⟨xs, own_more h1 hb, h2⟩
theorem OwnV.set {w : World} {B b i : Nat} {s : Sl} {a : List Val} (h : OwnV w B s a) (hb : b < B) (v : Value) : OwnV (w.setCell ⟨b, i, none⟩ v) B s a := by
  obtain ⟨xs, h1, h2⟩ := h
  exact ⟨xs, own_set h1 v (fun e => by have := (h1.lt _ e).1; omega), h2⟩
theorem OwnV.nil (w : World) (B : Nat) : OwnV w B ⟨none, 0, 0⟩ [] := ⟨[], World.ownsRow_nil _ _ _ _, rfl⟩
def RetC (g : Nat) (A : Option Addr) (n c : Nat) (l : List UInt8) (k : Nat) (x : Chg) (w : World) (e : Ending) (w' : World) : Prop :=
  ∃ s : Sl, e = .returned (cgv x s) ∧ OwnV w' w.heap.size s x.row ∧ Rdr w' g A n c l k ∧ w.grownBy w' (some g)
/-- What is known of a change that is read back. -/
structure COk2 (x : Chg) : Prop where
  t0 : 0 ≤ x.table
  t1 : x.table ≤ 1073741824
  k1 : -9223372036854775808 ≤ x.key
  k2 : x.key ≤ 9223372036854775807
  r : ∀ v ∈ x.row, badV v = false ∧ VOk v
  n : x.row.length ≤ 20
  e : x.gone = true → x.row = []
theorem box_gb {w w' : World} {h g : Nat} {o : Obj} (hb : w.heap[h]? = some o) (hg : w.grownBy w' (some g)) (hne : g < h) : w'.heap[h]? = some o := by
  rw [hg.block h (Array.getElem?_eq_some_iff.1 hb).1 (fun e => by injection e with e; omega)]
  exact hb
theorem box_set {w : World} {h b i : Nat} {o : Obj} (hb : w.heap[h]? = some o) (hne : b ≠ h) (v : Value) : (w.setCell ⟨b, i, none⟩ v).heap[h]? = some o := by
  rw [Below.heap_setCell _ _ _ _ (by simp only; omega)]
  exact hb
set_option maxHeartbeats 2000000 in
set_option maxRecDepth 100000 in
theorem rchange_any (g : Nat) (A : Option Addr) (n c : Nat) (pre rest : List UInt8) (x : Chg) (w : World) (h : Rdr w g A n c (pre ++ (chgL x ++ rest)) pre.length) (ok : COk2 x) :
    Calls Try.prog 117 #[.pointer (some ⟨g, 0, none⟩)] w (RetC g A n c (pre ++ (chgL x ++ rest)) (pre.length + (chgL x).length) x w) := by
  have hg := h.lt
  have hcap := h.cap
  have hn := h.n
  have HR := Lib.hid h
  have OK := Lib.hid ok
  have hx : chgL x = uintL x.table.toNat ++ (uintL (zig x.key) ++ (if x.gone then [0] else uintL (x.row.length + 1) ++ putVals x.row)) := rfl
  have h1 : pre ++ (chgL x ++ rest) = pre ++ (uintL x.table.toNat ++ (uintL (zig x.key) ++ ((if x.gone then [0] else uintL (x.row.length + 1) ++ putVals x.row) ++ rest))) := by rw [hx]; simp only [List.append_assoc]
  have h2 : pre ++ (chgL x ++ rest) = (pre ++ uintL x.table.toNat) ++ (uintL (zig x.key) ++ ((if x.gone then [0] else uintL (x.row.length + 1) ++ putVals x.row) ++ rest)) := by rw [hx]; simp only [List.append_assoc]
  have q1 : Hid (∀ W, Rdr W g A n c (pre ++ (chgL x ++ rest)) pre.length → Calls Try.prog 114 #[.pointer (some ⟨g, 0, none⟩)] W (RetR g A n c (pre ++ (chgL x ++ rest)) (pre.length + (uintL x.table.toNat).length) (.int .i64 x.table) W)) := Lib.hid (fun W hW => by
    rw [h1] at hW ⊢
    have := rnumber_any g A n c pre _ x.table.toNat W hW (by have := ok.t1; omega)
    rwa [Int.toNat_of_nonneg ok.t0] at this)
  have q2 : Hid (getUAt (pre ++ (chgL x ++ rest)) (((pre.length + (uintL x.table.toNat).length : Nat)) : Int) = some (zig x.key, (uintL (zig x.key)).length)) := Lib.hid (by
    rw [h2, ← List.length_append]
    exact at_i _ _ _ ok.k1 ok.k2)
  have hl := h.len
  have hkn : pre.length + (uintL x.table.toNat).length + (uintL (zig x.key)).length ≤ n := by rw [← hl, h2]; simp only [List.length_append]; omega
  have hz : g ≠ w.heap.size := by omega
  have q3 : Hid (∀ u : Nat, ∀ r2 : List UInt8, (if x.gone then [0] else uintL (x.row.length + 1) ++ putVals x.row) ++ rest = uintL u ++ r2 → u ≤ 1073741824 → ∀ W, Rdr W g A n c (pre ++ (chgL x ++ rest)) (pre.length + (uintL x.table.toNat).length + (uintL (zig x.key)).length) →
      Calls Try.prog 114 #[.pointer (some ⟨g, 0, none⟩)] W (RetR g A n c (pre ++ (chgL x ++ rest)) (pre.length + (uintL x.table.toNat).length + (uintL (zig x.key)).length + (uintL u).length) (.int .i64 (u : Int)) W)) := Lib.hid (fun u r2 he hu W hW => by
    have e : pre ++ (chgL x ++ rest) = ((pre ++ uintL x.table.toNat) ++ uintL (zig x.key)) ++ (uintL u ++ r2) := by rw [h2, he]; simp only [List.append_assoc]
    have e2 : pre.length + (uintL x.table.toNat).length + (uintL (zig x.key)).length = ((pre ++ uintL x.table.toNat) ++ uintL (zig x.key)).length := by simp only [List.length_append]
    rw [e, e2] at hW ⊢
    exact rnumber_any g A n c _ r2 u W hW hu)
  have q4 : Hid (x.gone = false → ∀ W, Rdr W g A n c (pre ++ (chgL x ++ rest)) (pre.length + (uintL x.table.toNat).length + (uintL (zig x.key)).length + (uintL (x.row.length + 1)).length) →
      Calls Try.prog 147 #[.pointer (some ⟨g, 0, none⟩), .int .i64 (x.row.length : Int), .func (.func 148) #[.pointer (some ⟨g, 0, none⟩)] #[]] W
      (RetV g A n c (pre ++ (chgL x ++ rest)) (pre.length + (chgL x).length) x.row W)) := Lib.hid (fun hgn W hW => by
    have e : pre ++ (chgL x ++ rest) = (((pre ++ uintL x.table.toNat) ++ uintL (zig x.key)) ++ uintL (x.row.length + 1)) ++ (putVals x.row ++ rest) := by rw [h2, hgn]; simp [List.append_assoc]
    have e2 : pre.length + (uintL x.table.toNat).length + (uintL (zig x.key)).length + (uintL (x.row.length + 1)).length = (((pre ++ uintL x.table.toNat) ++ uintL (zig x.key)) ++ uintL (x.row.length + 1)).length := by simp only [List.length_append]
    have e3 : pre.length + (chgL x).length = (((pre ++ uintL x.table.toNat) ++ uintL (zig x.key)) ++ uintL (x.row.length + 1)).length + (putVals x.row).length := by rw [hx, hgn]; simp; omega
    rw [e3, e]
    rw [e, e2] at hW
    exact rrowsV_any g A n c _ rest x.row W hW ok.r ok.n)
  have hkn2 : pre.length + (uintL x.table.toNat).length ≤ n := by omega
  have hln : x.row.length ≤ 20 := ok.n
  have hend : Hid (x.gone = true → pre.length + (chgL x).length = pre.length + (uintL x.table.toNat).length + (uintL (zig x.key)).length + (uintL 0).length) := Lib.hid (fun hgn => by
    rw [hx, hgn, show uintL 0 = [0] from uintL_lt (by omega)]; simp; omega)
  have hrow : Hid (x.gone = true → x.row = []) := Lib.hid ok.e
  obtain ⟨tb, ky, gn, r⟩ := x
  dsimp only at q1 q2 q3 q4 hend hrow hkn hkn2 hln
  clear h ok h1 h2 hl hx OK
  generalize pre ++ (chgL ⟨tb, ky, gn, r⟩ ++ rest) = L at *
  generalize pre.length + (chgL ⟨tb, ky, gn, r⟩).length = kE at *
  generalize hp1 : pre.length + (uintL tb.toNat).length = p1 at *
  generalize (uintL (zig ky)).length = lb at *
  have X0 : Hid ((w.alloc (.cells #[.int .i64 0, .int .i64 0, .bool false, .slice none 0 0] 42)).heap[w.heap.size]? = some (.cells #[.int .i64 0, .int .i64 0, .bool false, .slice none 0 0] 42 (0, 0))) := Lib.hid (alloc_at rfl)
  have R0 := Lib.hid (HR.out.next ((Below.refl _ _).alloc (Nat.le_refl _) (.cells #[.int .i64 0, .int .i64 0, .bool false, .slice none 0 0] 42)))
  have G0 : Hid (w.grownBy (w.alloc (.cells #[.int .i64 0, .int .i64 0, .bool false, .slice none 0 0] 42)) (some g)) := Lib.hid (gb_below ((Below.refl _ _).alloc (Nat.le_refl _) _) _)
  clear hp1
  have hzz := zag_zig ky
  have HZ := Lib.hid hzz
  clear hzz
  go_enter Try.func117, Try.ntmps117
  go_wp2_with fail
  refine (q1.out _ R0.out).mono ?_; rintro e w1 ⟨rfl, r1, g1⟩
  have X1 := Lib.hid (box_gb X0.out g1 hg)
  have R1 := Lib.hid r1
  have G1 := Lib.hid (gb_trans G0.out g1)
  clear r1 g1 X0 R0 G0
  obtain ⟨⟨y0, y1⟩, y2, y3⟩ := cells4 X1.out
  have yf0 := Lib.frozen_of_heap X1.out 0
  have yf1 := Lib.frozen_of_heap X1.out 1
  have yf2 := Lib.frozen_of_heap X1.out 2
  have yf3 := Lib.frozen_of_heap X1.out 3
  go_wp2_with fail
  have X2 : Hid ((w1.setCell ⟨w.heap.size, 0, none⟩ (.int .i64 tb)).heap[w.heap.size]? = some (.cells #[.int .i64 tb, .int .i64 0, .bool false, .slice none 0 0] 42 (0, 0))) := Lib.hid (by have := heap_set (i := 0) X1.out (.int .i64 tb); exact this)
  have R2 := Lib.hid (R1.out.other (i := 0) hg (.int .i64 tb))
  have G2 := Lib.hid (gb_new G1.out (Nat.le_refl _) 0 (.int .i64 tb))
  obtain ⟨w2, hw2⟩ : ∃ w2, w1.setCell ⟨w.heap.size, 0, none⟩ (.int .i64 tb) = w2 := ⟨_, rfl⟩
  rw [hw2] at X2 R2 G2 ⊢
  clear hw2 X1 R1 G1 y0 y1 y2 y3 yf0 yf1 yf2 yf3
  refine wp_region_sched [(0, true), (1, true), (2, true), (3, true), (4, true), (5, true), (6, true), (7, true), (8, false), (9, true), (10, true), (11, true), (12, true), (13, true), (14, true), (15, true)] (by kernel_rfl) (by kernel_rfl) (fun _ _ d _ _ h => by cases d <;> exact h) ?_
  refine swith (fun W hW => (R2.out.next ((Below.refl _ _).drew.trans (hW.out.mono (Nat.le_refl _)))).cells) (fun q => ?_)
  repeat (first | (refine sreadx rfl rfl ?_; apply Exists.intro; apply And.intro; (· (intro W hW; first | (go_simp; done) | (go_simp; with_reducible rfl) | (go_simp; rw [if_neg (by omega)]; done) | (go_simp; rw [if_neg (by omega)]; with_reducible rfl))); simp only [Act.put, List.setIfInBounds_toArray, List.set_cons_zero, List.set_cons_succ]) | (refine sskip rfl rfl ?_; simp only [Act.put, List.setIfInBounds_toArray, List.set_cons_zero, List.set_cons_succ]))
  refine scall rfl rfl (fun K hK => ?_)
  go_simp
  refine (getInt_any A n c (p1 : Int) L _ (R2.out.row.drew.more (show g ≤ w2.drew.heap.size by have := R2.out.lt; simp; omega)) hcap.1 (by omega) hcap.2).mono ?_; rintro e w3 ⟨rfl, rfl⟩; rw [q2.out]; simp only [resI]; rw [HZ.out]
  go_wp2_with fail
  refine hK.out _ _ (by exact Grow.refl _) ?_
  clear hK K
  try simp only [Act.put, List.setIfInBounds_toArray, List.set_cons_zero, List.set_cons_succ]
  repeat (first | (refine sreadx rfl rfl ?_; apply Exists.intro; apply And.intro; (· (intro W hW; first | (go_simp; done) | (go_simp; with_reducible rfl) | (go_simp; rw [if_neg (by omega)]; done) | (go_simp; rw [if_neg (by omega)]; with_reducible rfl))); simp only [Act.put, List.setIfInBounds_toArray, List.set_cons_zero, List.set_cons_succ]) | (refine sskip rfl rfl ?_; simp only [Act.put, List.setIfInBounds_toArray, List.set_cons_zero, List.set_cons_succ]))
  refine sdone ?_
  have X3 := Lib.hid (box_next X2.out (Below.refl _ _).drew)
  have R3 := Lib.hid (R2.out.next (Below.refl _ _).drew)
  have G3 : Hid (w.grownBy w2.drew (some g)) := Lib.hid (gb_trans G2.out (gb_below (Below.refl _ _).drew _))
  obtain ⟨w3, hw3⟩ : ∃ w3, w2.drew = w3 := ⟨_, rfl⟩
  rw [hw3] at X3 R3 G3 ⊢
  clear hw3 X2 R2 G2 q q2
  obtain ⟨⟨y0, y1⟩, y2, y3⟩ := cells4 X3.out
  have yf0 := Lib.frozen_of_heap X3.out 0
  have yf1 := Lib.frozen_of_heap X3.out 1
  have yf2 := Lib.frozen_of_heap X3.out 2
  have yf3 := Lib.frozen_of_heap X3.out 3
  obtain ⟨x0, x1⟩ := R3.out.cells
  have xf := R3.out.free 1
  go_wp2_with fail
  refine (must_yes _).mono ?_; rintro e w4 ⟨rfl, rfl⟩
  go_wp2_with fail
  have X5 : Hid (((w3.setCell ⟨w.heap.size, 1, none⟩ (.int .i64 ky)).setCell ⟨g, 1, none⟩ (.int .i64 ((p1 : Int) + (lb : Int)))).heap[w.heap.size]? = some (.cells #[.int .i64 tb, .int .i64 ky, .bool false, .slice none 0 0] 42 (0, 0))) := Lib.hid (box_set (by have := heap_set (i := 1) X3.out (.int .i64 ky); exact this) hz _)
  have R5 := Lib.hid ((R3.out.other (i := 1) hg (.int .i64 ky)).set (show (p1 : Int) + (lb : Int) = ((p1 + lb : Nat) : Int) by omega))
  have G5 := Lib.hid (gb_trans (gb_new G3.out (Nat.le_refl _) 1 (.int .i64 ky)) (gb_set _ g 1 (.int .i64 ((p1 : Int) + (lb : Int)))))
  obtain ⟨w5, hw5⟩ : ∃ w5, (w3.setCell ⟨w.heap.size, 1, none⟩ (.int .i64 ky)).setCell ⟨g, 1, none⟩ (.int .i64 ((p1 : Int) + (lb : Int))) = w5 := ⟨_, rfl⟩
  rw [hw5] at X5 R5 G5 ⊢
  clear hw5 X3 R3 G3 y0 y1 y2 y3 yf0 yf1 yf2 yf3 x0 x1 xf
  cases gn
  · refine (q3.out (r.length + 1) (putVals r ++ rest) (by simp [List.append_assoc]) (by omega) _ R5.out).mono ?_; rintro e w6 ⟨rfl, r6, g6⟩
    have X6 := Lib.hid (box_gb X5.out g6 hg)
    have R6 := Lib.hid r6
    have G6 := Lib.hid (gb_trans G5.out g6)
    clear r6 g6 X5 R5 G5
    have e0 : ((r.length : Int) + 1 == 0) = false := by simp; omega
    obtain ⟨⟨y0, y1⟩, y2, y3⟩ := cells4 X6.out
    have yf0 := Lib.frozen_of_heap X6.out 0
    have yf1 := Lib.frozen_of_heap X6.out 1
    have yf2 := Lib.frozen_of_heap X6.out 2
    have yf3 := Lib.frozen_of_heap X6.out 3
    go_wp2_with fail
    have X7 : Hid ((w6.setCell ⟨w.heap.size, 2, none⟩ (.bool false)).heap[w.heap.size]? = some (.cells #[.int .i64 tb, .int .i64 ky, .bool false, .slice none 0 0] 42 (0, 0))) := Lib.hid (by have := heap_set (i := 2) X6.out (.bool false); exact this)
    have R7 := Lib.hid (R6.out.other (i := 2) hg (.bool false))
    have G7 := Lib.hid (gb_new G6.out (Nat.le_refl _) 2 (.bool false))
    obtain ⟨w7, hw7⟩ : ∃ w7, w6.setCell ⟨w.heap.size, 2, none⟩ (.bool false) = w7 := ⟨_, rfl⟩
    rw [hw7] at X7 R7 G7 ⊢
    clear hw7 X6 R6 G6 y0 y1 y2 y3 yf0 yf1 yf2 yf3
    have hh7 : w.heap.size < w7.heap.size := (Array.getElem?_eq_some_iff.1 X7.out).1
    refine (q4.out (by first | exact trivial | rfl) _ R7.out).mono ?_; rintro e w8 ⟨A8, n8, c8, xs8, rfl, o8, p8, r8, g8⟩
    have O8 : Hid (OwnV w8 w7.heap.size ⟨A8, n8, c8⟩ r) := Lib.hid ⟨xs8, o8, p8⟩
    have X8 := Lib.hid (box_gb X7.out g8 hg)
    have R8 := Lib.hid r8
    have G8 := Lib.hid (gb_trans G7.out g8)
    clear o8 p8 r8 g8 X7 R7 G7
    obtain ⟨⟨y0, y1⟩, y2, y3⟩ := cells4 X8.out
    have yf0 := Lib.frozen_of_heap X8.out 0
    have yf1 := Lib.frozen_of_heap X8.out 1
    have yf2 := Lib.frozen_of_heap X8.out 2
    have yf3 := Lib.frozen_of_heap X8.out 3
    go_wp2_with fail
    refine bodyPost_ret (v := cgv ⟨tb, ky, false, r⟩ ⟨A8, n8, c8⟩) (by simp [results, Try.results117, go_sem, cgv, y0, y1, y2, y3]) rfl ?_
    refine ⟨⟨A8, n8, c8⟩, rfl, ?_, ?_, ?_⟩
    · exact ((((((O8.out.set hh7 _).set hh7 _).set hh7 _).set hh7 _).set hh7 _)).more (Nat.le_of_lt hh7)
    · exact ((((R8.out.other hg _).other hg _).other hg _).other hg _).other hg _
    · exact gb_new (gb_new (gb_new (gb_new (gb_new G8.out (Nat.le_refl _) _ _) (Nat.le_refl _) _ _) (Nat.le_refl _) _ _) (Nat.le_refl _) _ _) (Nat.le_refl _) _ _
  · have hr0 : r = [] := hrow.out rfl
    have HE := Lib.hid (hend.out rfl)
    subst hr0
    refine (q3.out 0 rest (by rw [show uintL 0 = [0] from uintL_lt (by omega)]; rfl) (by omega) _ R5.out).mono ?_; rintro e w6 ⟨rfl, r6, g6⟩
    have X6 := Lib.hid (box_gb X5.out g6 hg)
    have R6 := Lib.hid r6
    have G6 := Lib.hid (gb_trans G5.out g6)
    clear r6 g6 X5 R5 G5
    have e0 : (((0 : Nat) : Int) == 0) = true := rfl
    obtain ⟨⟨y0, y1⟩, y2, y3⟩ := cells4 X6.out
    have yf0 := Lib.frozen_of_heap X6.out 0
    have yf1 := Lib.frozen_of_heap X6.out 1
    have yf2 := Lib.frozen_of_heap X6.out 2
    have yf3 := Lib.frozen_of_heap X6.out 3
    go_wp2_with fail
    refine bodyPost_ret (v := cgv ⟨tb, ky, true, []⟩ ⟨none, 0, 0⟩) (by simp [results, Try.results117, go_sem, cgv, y0, y1, y2, y3]) rfl ?_
    refine ⟨⟨none, 0, 0⟩, rfl, OwnV.nil _ _, ?_, ?_⟩
    · rw [HE.out]; exact ((((R6.out.other hg _).other hg _).other hg _).other hg _).other hg _
    · exact gb_new (gb_new (gb_new (gb_new (gb_new G6.out (Nat.le_refl _) _ _) (Nat.le_refl _) _ _) (Nat.le_refl _) _ _) (Nat.le_refl _) _ _) (Nat.le_refl _) _ _
end Go.Proofs.Ytpkoijlbbfffiaa.R
