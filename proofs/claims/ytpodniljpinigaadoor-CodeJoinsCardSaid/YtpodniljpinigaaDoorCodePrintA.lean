/- code.PrintAll and the reference's PrintAll. -/
import Derived.Test.YtpodniljpinigaaDoorCodeRow
import Derived.Test.YtpodniljpinigaaDoorCodeSplit
import Derived.Test.YtpodniljpinigaaDoorCodeRef3
import Derived.Test.YtpodniljpinigaaDoorBuilder2
import Derived.Test.YtpodniljpinigaaDoorSchedB
namespace Go.Proofs.YtpodniljpinigaaDoor.C
open Go.RowKit O V

/-- A code as a value. -/
def cdV (A : Option Addr) (n c : Nat) (r l k : Int) : Value := .agg #[.slice A n c, .int .i64 r, .int .i64 l, .int .i64 k]
theorem cells4d {W : World} {b : Nat} {x0 x1 x2 x3 : Value} {T : TypeId} (h : W.heap[b]? = some (.cells #[x0, x1, x2, x3] T (0, 0))) : W.cell? ⟨b, 0, none⟩ = some x0 ∧ W.cell? ⟨b, 1, none⟩ = some x1 ∧ W.cell? ⟨b, 2, none⟩ = some x2 ∧ W.cell? ⟨b, 3, none⟩ = some x3 := by
  refine ⟨?_, ?_, ?_, ?_⟩ <;> (rw [Lib.cell_of_heap h]; rfl)
theorem frozen4d {W : World} {b : Nat} {cs : Array Value} {T : TypeId} (h : W.heap[b]? = some (.cells cs T (0, 0))) : W.frozen? ⟨b, 0, none⟩ = false ∧ W.frozen? ⟨b, 1, none⟩ = false ∧ W.frozen? ⟨b, 2, none⟩ = false ∧ W.frozen? ⟨b, 3, none⟩ = false :=
  ⟨Lib.frozen_of_heap h 0, Lib.frozen_of_heap h 1, Lib.frozen_of_heap h 2, Lib.frozen_of_heap h 3⟩
theorem bld_next {g : Nat} {l : List UInt8} {w W : World} (h : Bld g l w) (b : Below w.heap.size w W) : Bld g l W := by
  rcases h with ⟨hB, v, hbk, hown, hne⟩ | ⟨hB, v, hbk, hown, hne⟩
  · exact .inl ⟨hB, v, box_next hbk b, own_below hown b, hne⟩
  · exact .inr ⟨hB, v, box_next hbk b, own_below hown b, hne⟩
theorem cat10 (a : List UInt8) : ByteArray.mk a.toArray ++ ByteArray.mk #[10] = ⟨(a ++ [10]).toArray⟩ := by
  have h1 : ByteArray.mk #[10] = ⟨([10] : List UInt8).toArray⟩ := rfl
  rw [h1, ba_append]
theorem rows_take {xs : List Ins} {k : Nat} (h : k < xs.length) : rowsL (xs.take (k + 1)) = rowsL (xs.take k) ++ (printI xs[k] ++ [10]) := by
  unfold rowsL; rw [List.take_succ_eq_append_getElem h, List.map_append, List.flatten_append]; simp
theorem okP.len {x : Ins} (h : okP x) : (printI x).length ≤ 20000 := words_lens x h.s h.f h.v
theorem rows_len : ∀ (xs : List Ins), (∀ x ∈ xs, okP x) → (rowsL xs).length ≤ xs.length * 20001
  | [], _ => by simp [rowsL]
  | x :: xs, h => by
    have h1 := rows_len xs (fun y hy => h y (by simp [hy]))
    have h2 := (h x (by simp)).len
    have e : rowsL (x :: xs) = printI x ++ [10] ++ rowsL xs := by simp [rowsL]
    rw [e]; simp only [List.length_append, List.length_cons, List.length_nil]; omega
theorem head_len {r l k : Int} (hr : fit r) (hl : fit l) (hk : fit k) : (headL r l k).length ≤ 200 := by
  have h1 := jn_len [codeW, decL r, decL l, decL k] 30 (by
    intro q hq
    simp only [List.mem_cons, List.not_mem_nil, or_false] at hq
    rcases hq with rfl | rfl | rfl | rfl
    · decide
    · have := V.decL_len _ hr.1 hr.2; omega
    · have := V.decL_len _ hl.1 hl.2; omega
    · have := V.decL_len _ hk.1 hk.2; omega)
  unfold headL
  simp only [List.length_cons, List.length_nil] at h1
  omega
theorem printA_len {c : Cd} {n : Nat} (hn : c.ins.length = n) (ho : ∀ x ∈ c.ins, okP x) (hr : fit c.r) (hl : fit c.l) (hk : fit c.k) : (printA c).length ≤ 201 + n * 20001 := by
  have h1 := rows_len c.ins ho
  have h2 := head_len hr hl hk
  unfold printA
  rw [hn] at h1
  simp only [List.length_append, List.length_cons, List.length_nil]; omega
set_option maxHeartbeats 4000000 in
set_option maxRecDepth 100000 in
theorem cprintA_any (A : Option Addr) (n c : Nat) (r l k : Int) (xs : List Ins) (w : World) (h : IRow w A n c xs) (hn : n ≤ 5000) (ho : ∀ x ∈ xs, okP x) (hr : fit r) (hl : fit l) (hk : fit k) :
    Calls Tryd.prog 10 #[cdV A n c r l k] w fun e w' => e = .returned (.string ⟨(printA ⟨r, l, k, xs⟩).toArray⟩) ∧ Below w.heap.size w w' := by
  have hxl := h.len
  have HV := Lib.hid h
  have HO := Lib.hid ho
  have HXL := Lib.hid hxl
  have hrl := Lib.hid (rows_len xs ho)
  have hhl := head_len hr hl hk
  clear h ho hxl
  unfold cdV
  have X1 := heap_alloc_new w (.cells #[.slice A n c, .int .i64 r, .int .i64 l, .int .i64 k] 24)
  have B1 := Bld.fresh (w.alloc (.cells #[.slice A n c, .int .i64 r, .int .i64 l, .int .i64 k] 24))
  rw [show (w.alloc (.cells #[.slice A n c, .int .i64 r, .int .i64 l, .int .i64 k] 24)).heap.size = w.heap.size + 1 by simp] at B1
  have X2 := box_next X1 ((Below.refl _ _).alloc (Nat.le_refl _) (.cells #[.pointer none, .slice none 0 0] 50))
  have W2 : Below w.heap.size w ((w.alloc (.cells #[.slice A n c, .int .i64 r, .int .i64 l, .int .i64 k] 24)).alloc (.cells #[.pointer none, .slice none 0 0] 50)) := ((Below.refl _ _).alloc (Nat.le_refl _) _).alloc (by simp) _
  go_enter Tryd.func10, Tryd.ntmps10
  go_wp2_with fail
  generalize ((w.alloc (.cells #[.slice A n c, .int .i64 r, .int .i64 l, .int .i64 k] 24)).alloc (.cells #[.pointer none, .slice none 0 0] 50)) = V2 at *
  have HX2 := Lib.hid X2
  have HB2 := Lib.hid (bld_next B1 ((Below.refl _ _).drew))
  have HW2 := Lib.hid W2.drew
  have hg2 : w.heap.size + 1 < V2.heap.size := B1.lt
  clear X1 X2 B1 W2
  refine wp_region_schedB [w.heap.size] [(0, true), (1, true), (3, true), (4, true), (6, true), (7, true), (2, false), (5, false), (8, false), (9, false), (10, false), (11, true), (12, false)] (by kernel_rfl) (by kernel_rfl) (fun _ _ d _ _ h => by cases d <;> exact h) ?_
  refine bwith (fun W hW => (cells4d (hW.one HX2.out))) (fun q => ?_)
  repeat (first | (refine sreadxB rfl rfl ?_; apply Exists.intro; apply And.intro; (· (intro W hW; first | (go_simp; done) | (go_simp; with_reducible rfl) | (go_simp; rw [if_neg (by omega)]; done) | (go_simp; rw [if_neg (by omega)]; with_reducible rfl))); simp only [Act.put, List.setIfInBounds_toArray, List.set_cons_zero, List.set_cons_succ]) | (refine bskip rfl rfl ?_; simp only [Act.put, List.setIfInBounds_toArray, List.set_cons_zero, List.set_cons_succ]))
  refine bcall rfl rfl (fun K hK => ?_)
  go_simp
  refine (cdec_any r _ hr).mono ?_; rintro e w3 ⟨rfl, b3⟩
  go_wp2_with fail
  refine hK.out _ _ (by exact KB.of_below b3 (fun k hk => by simp at hk; subst hk; simp; omega)) ?_
  clear hK K
  try simp only [Act.put, List.setIfInBounds_toArray, List.set_cons_zero, List.set_cons_succ]
  have hs3 := b3.size
  repeat (first | (refine sreadxB rfl rfl ?_; apply Exists.intro; apply And.intro; (· (intro W hW; first | (go_simp; done) | (go_simp; with_reducible rfl) | (go_simp; rw [if_neg (by omega)]; done) | (go_simp; rw [if_neg (by omega)]; with_reducible rfl))); simp only [Act.put, List.setIfInBounds_toArray, List.set_cons_zero, List.set_cons_succ]) | (refine bskip rfl rfl ?_; simp only [Act.put, List.setIfInBounds_toArray, List.set_cons_zero, List.set_cons_succ]))
  refine bcall rfl rfl (fun K hK => ?_)
  go_simp
  refine (cdec_any l _ hl).mono ?_; rintro e w4 ⟨rfl, b4⟩
  go_wp2_with fail
  refine hK.out _ _ (by exact KB.of_below b4 (fun k hk => by simp at hk; subst hk; simp at hs3; omega)) ?_
  clear hK K
  try simp only [Act.put, List.setIfInBounds_toArray, List.set_cons_zero, List.set_cons_succ]
  have hs4 := b4.size
  repeat (first | (refine sreadxB rfl rfl ?_; apply Exists.intro; apply And.intro; (· (intro W hW; first | (go_simp; done) | (go_simp; with_reducible rfl) | (go_simp; rw [if_neg (by omega)]; done) | (go_simp; rw [if_neg (by omega)]; with_reducible rfl))); simp only [Act.put, List.setIfInBounds_toArray, List.set_cons_zero, List.set_cons_succ]) | (refine bskip rfl rfl ?_; simp only [Act.put, List.setIfInBounds_toArray, List.set_cons_zero, List.set_cons_succ]))
  refine bcall rfl rfl (fun K hK => ?_)
  go_simp
  refine (cdec_any k _ hk).mono ?_; rintro e w5 ⟨rfl, b5⟩
  go_wp2_with fail
  refine hK.out _ _ (by exact KB.of_below b5 (fun k hk => by simp at hk; subst hk; simp at hs3; omega)) ?_
  clear hK K
  try simp only [Act.put, List.setIfInBounds_toArray, List.set_cons_zero, List.set_cons_succ]
  have hs5 := b5.size
  have b25 := bthen (bthen b3 b4) b5
  have HB5 := Lib.hid (bld_next HB2.out b25)
  have HW5 := Lib.hid (HW2.out.trans (b25.mono HW2.out.size))
  have HX5 := Lib.hid (box_next (show V2.drew.heap[w.heap.size]? = _ from HX2.out) b25)
  have hg5 : w.heap.size + 1 < w5.heap.size := HB5.out.lt
  clear b3 b4 b5 b25 q hs3 hs4 hs5
  repeat (first | (refine sreadxB rfl rfl ?_; apply Exists.intro; apply And.intro; (· (intro W hW; first | (go_simp; done) | (go_simp; with_reducible rfl) | (go_simp; rw [if_neg (by omega)]; done) | (go_simp; rw [if_neg (by omega)]; with_reducible rfl))); simp only [Act.put, List.setIfInBounds_toArray, List.set_cons_zero, List.set_cons_succ]) | (refine bskip rfl rfl ?_; simp only [Act.put, List.setIfInBounds_toArray, List.set_cons_zero, List.set_cons_succ]))
  have R6 := Rd.made w5 ([codeW, decL r, decL l, decL k].map strV) (e := 9) (n := 4) (size := 1) rfl rfl
  have B56 : Below w5.heap.size w5 (w5.alloc (.cells ([codeW, decL r, decL l, decL k].map strV).toArray 9)) := (Below.refl _ _).alloc (Nat.le_refl _) _
  have HB6 := Lib.hid (bld_next HB5.out B56)
  have HX6 := Lib.hid (box_next HX5.out B56)
  have HW6 := Lib.hid (HW5.out.trans (B56.mono HW5.out.size))
  refine bcall rfl rfl (fun K hK => ?_)
  go_simp
  refine hK.out _ _ (KB.of_below B56 (fun k hk => by simp at hk; subst hk; omega)) ?_
  clear hK K
  try simp only [Act.put, List.setIfInBounds_toArray, List.set_cons_zero, List.set_cons_succ]
  refine bcall rfl rfl (fun K hK => ?_)
  go_simp
  refine (line_any (c := 4) [codeW, decL r, decL l, decL k] (R6.more (by simp)) (by omega) (by omega) (by omega) (by have := hhl; unfold headL at this; omega)).mono ?_; rintro e w7 ⟨rfl, b7⟩
  go_wp2_with fail
  refine hK.out _ _ (by exact KB.of_below b7 (fun k hk => by simp at hk; subst hk; simp; omega)) ?_
  clear hK K
  try simp only [Act.put, List.setIfInBounds_toArray, List.set_cons_zero, List.set_cons_succ]
  have HB7 := Lib.hid (bld_next HB6.out b7)
  have HX7 := Lib.hid (box_next HX6.out b7)
  have HW7 := Lib.hid (HW6.out.trans (b7.mono HW6.out.size))
  clear b7 B56 R6
  refine sreadxB rfl rfl ⟨.string ⟨(headL r l k ++ [10]).toArray⟩, fun W hW => ?_, ?_⟩
  · go_simp
    rw [show jn [codeW, decL r, decL l, decL k] = headL r l k from rfl, cat10, if_neg (by omega)]
  try simp only [Act.put, List.setIfInBounds_toArray, List.set_cons_zero, List.set_cons_succ]
  refine bcall rfl rfl (fun K hK => ?_)
  go_simp
  refine (wstr_any HB7.out (headL r l k ++ [10]) (by simp; omega)).mono ?_
  rintro e w8 ⟨rfl, hb8, b8⟩
  go_wp2_with fail
  refine hK.out _ _ (fun q hq => b8.block q (by simp at hq; omega)) ?_
  clear hK K
  refine bdone ?_
  have HX8 := (b8.block w.heap.size (by omega)).trans HX7.out
  have HW8 := Lib.hid (HW7.out.trans (b8.mono (Nat.le_succ _)))
  have HB8 := Lib.hid hb8
  obtain ⟨x0, x1, x2, x3⟩ := cells4d HX8
  clear HX2 HB2 HW2 hg2 HB5 HW5 hg5 HB6 HW6 HB7 HW7 HX5 HX6 HX7 hb8 b8 HX8
  obtain ⟨H, hH⟩ : ∃ H, headL r l k ++ [10] = H := ⟨_, rfl⟩
  have hHl : H.length ≤ 201 := by rw [← hH]; simp; omega
  have HH := Lib.hid hH
  rw [hH] at HB8
  clear hH hhl
  go_wp2_with fail
  go_loopw [22] (fun iv wr => ∃ j : Nat, j ≤ n ∧ iv = .int .i64 (j : Int) ∧ Hid (Bld (w.heap.size + 1) (H ++ rowsL (xs.take j)) wr) ∧ Hid (Below w.heap.size w wr)) (fun iv _ => n - (intOf iv).toNat)
  case atStart => exact ⟨0, by omega, rfl, by simpa [rowsL] using HB8, HW8⟩
  case round =>
    obtain ⟨j, hj, rfl, HB, HW⟩ := hrel
    clear HB8 HW8 x0 x1 x2 x3
    by_cases hlt : j < n
    · have hjl : j < xs.length := by rw [HXL.out]; exact hlt
      have hji : (j : Int) < (n : Int) := by omega
      obtain ⟨b1, off, rfl, hbl, hc⟩ := HV.out.at8 hjl
      obtain ⟨c0, c1, c2, c3, c4, c5, c6, c7⟩ := hc wr HW.out
      have hst := Lib.hid (rows_take hjl)
      have hok := Lib.hid (HO.out _ (List.getElem_mem hjl))
      have hpl := hok.out.len
      have hrj : (rowsL (xs.take j)).length ≤ 5000 * 20001 := by
        have h1 := rows_len (xs.take j) (fun x hx => HO.out x (List.mem_of_mem_take hx))
        have h2 : (xs.take j).length ≤ 5000 := by rw [List.length_take]; omega
        omega
      clear hc
      generalize xs[j] = x at *
      have hA : ∀ o, Below wr.heap.size wr (wr.alloc o) := fun o => (Below.refl _ _).alloc (Nat.le_refl _) o
      go_wp2_with fail
      refine (cprint_any x _ hok.out.s hok.out.f hok.out.v).mono ?_; rintro e w4 ⟨rfl, b4⟩
      have HB4 := Lib.hid (bld_next (bld_next HB.out (hA _)) b4)
      have HW4 := Lib.hid (HW.out.trans ((bthen (hA _) b4).mono HW.out.size))
      clear HB b4 hA c0 c1 c2 c3 c4 c5 c6 c7
      generalize printI x = pl at *
      go_wp2_with fail
      rw [cat10]
      refine (wstr_any HB4.out (pl ++ [10]) (by simp; omega)).mono ?_; rintro e w5 ⟨rfl, hb5, b5⟩
      go_wp2_with fail
      go_roundw
      case rel => exact ⟨j + 1, by omega, by go_num, Lib.hid (by rw [hst.out, ← List.append_assoc]; exact hb5), Lib.hid (HW4.out.trans (b5.mono (Nat.le_succ _)))⟩
      case measure => simp [intOf]; omega
    · obtain rfl : j = n := by omega
      have hlk : xs.take j = xs := List.take_of_length_le (by rw [HXL.out]; omega)
      rw [hlk] at HB
      go_wp2_with fail
      refine (string_any HB.out).mono ?_; rintro e w4 ⟨rfl, b4⟩
      go_wp2_with fail
      go_ret
      exact ⟨by rw [← HH.out]; rfl, HW.out.trans (b4.mono (Nat.le_succ _))⟩
theorem cats (r l k : List UInt8) : ByteArray.mk #[99, 111, 100, 101, 32] ++ ByteArray.mk r.toArray ++ ByteArray.mk #[32] ++ ByteArray.mk l.toArray ++ ByteArray.mk #[32] ++ ByteArray.mk k.toArray ++ ByteArray.mk #[10] = ⟨(jn [codeW, r, l, k] ++ [10]).toArray⟩ := by
  have h1 : ByteArray.mk #[99, 111, 100, 101, 32] = ⟨([99, 111, 100, 101, 32] : List UInt8).toArray⟩ := rfl
  have h2 : ByteArray.mk #[32] = ⟨([32] : List UInt8).toArray⟩ := rfl
  have h3 : ByteArray.mk #[10] = ⟨([10] : List UInt8).toArray⟩ := rfl
  rw [h1, h2, h3]
  simp only [ba_append]
  simp [jn, codeW]
set_option maxHeartbeats 4000000 in
set_option maxRecDepth 100000 in
theorem rprintA_any (A : Option Addr) (n c : Nat) (r l k : Int) (xs : List Ins) (w : World) (h : IRow w A n c xs) (hn : n ≤ 5000) (ho : ∀ x ∈ xs, okP x) (hr : fit r) (hl : fit l) (hk : fit k) :
    Calls Tryd.prog 15 #[cdV A n c r l k] w fun e w' => e = .returned (.string ⟨(printA ⟨r, l, k, xs⟩).toArray⟩) ∧ Below w.heap.size w w' := by
  have hxl := h.len
  have HV := Lib.hid h
  have HO := Lib.hid ho
  have HXL := Lib.hid hxl
  have hhl := head_len hr hl hk
  clear h ho hxl
  unfold cdV
  have X1 := heap_alloc_new w (.cells #[.slice A n c, .int .i64 r, .int .i64 l, .int .i64 k] 24)
  have W1 : Below w.heap.size w (w.alloc (.cells #[.slice A n c, .int .i64 r, .int .i64 l, .int .i64 k] 24)) := (Below.refl _ _).alloc (Nat.le_refl _) _
  go_enter Tryd.func15, Tryd.ntmps15
  go_wp2_with fail
  generalize (w.alloc (.cells #[.slice A n c, .int .i64 r, .int .i64 l, .int .i64 k] 24)) = V1 at *
  have HX1 := Lib.hid X1
  have HW1 := Lib.hid W1
  clear X1 W1
  have hdr := V.decL_len _ hr.1 hr.2
  have hdl := V.decL_len _ hl.1 hl.2
  have hdk := V.decL_len _ hk.1 hk.2
  have hjn : headL r l k = jn [codeW, decL r, decL l, decL k] := rfl
  rw [hjn] at hhl
  refine wp_region_sched [(0, true), (1, true), (5, true), (6, true), (10, true), (11, true), (2, false), (3, true), (4, true), (7, false), (8, true), (9, true), (12, false), (13, true), (14, true), (15, true)] (by kernel_rfl) (by kernel_rfl) (fun _ _ d _ _ h => by cases d <;> exact h) ?_
  refine sbelow (w0 := V1) ((Below.refl _ _).drew) (fun B0 => ?_)
  refine swith (fun W hW => (cells4d (box_next HX1.out (bthen B0 hW.out)))) (fun q => ?_)
  repeat (first | (refine sreadx rfl rfl ?_; apply Exists.intro; apply And.intro; (· (intro W hW; first | (go_simp; done) | (go_simp; with_reducible rfl) | (go_simp; rw [if_neg (by omega)]; done) | (go_simp; rw [if_neg (by omega)]; with_reducible rfl))); simp only [Act.put, List.setIfInBounds_toArray, List.set_cons_zero, List.set_cons_succ]) | (refine sskip rfl rfl ?_; simp only [Act.put, List.setIfInBounds_toArray, List.set_cons_zero, List.set_cons_succ]))
  refine scall rfl rfl (fun K hK => ?_)
  go_simp
  refine (rdec_any r _ hr.1 hr.2).mono ?_; rintro e w3 ⟨rfl, b3⟩
  go_wp2_with fail
  refine hK.out _ _ (by exact b3) ?_
  clear hK K
  try simp only [Act.put, List.setIfInBounds_toArray, List.set_cons_zero, List.set_cons_succ]
  replace q := fun (W : World) (hW : Grow w3 W) => q W (Grow.trans (b3) hW)
  have B3 := bthen B0 b3
  generalize decL r = dr at *
  repeat (first | (refine sreadx rfl rfl ?_; apply Exists.intro; apply And.intro; (· (intro W hW; first | (go_simp; done) | (go_simp; with_reducible rfl) | (go_simp; rw [if_neg (by omega)]; done) | (go_simp; rw [if_neg (by omega)]; with_reducible rfl))); simp only [Act.put, List.setIfInBounds_toArray, List.set_cons_zero, List.set_cons_succ]) | (refine sskip rfl rfl ?_; simp only [Act.put, List.setIfInBounds_toArray, List.set_cons_zero, List.set_cons_succ]))
  refine scall rfl rfl (fun K hK => ?_)
  go_simp
  refine (rdec_any l _ hl.1 hl.2).mono ?_; rintro e w4 ⟨rfl, b4⟩
  go_wp2_with fail
  refine hK.out _ _ (by exact b4) ?_
  clear hK K
  try simp only [Act.put, List.setIfInBounds_toArray, List.set_cons_zero, List.set_cons_succ]
  replace q := fun (W : World) (hW : Grow w4 W) => q W (Grow.trans (b4) hW)
  have B4 := bthen B3 b4
  generalize decL l = dl at *
  repeat (first | (refine sreadx rfl rfl ?_; apply Exists.intro; apply And.intro; (· (intro W hW; first | (go_simp; done) | (go_simp; with_reducible rfl) | (go_simp; rw [if_neg (by omega)]; done) | (go_simp; rw [if_neg (by omega)]; with_reducible rfl))); simp only [Act.put, List.setIfInBounds_toArray, List.set_cons_zero, List.set_cons_succ]) | (refine sskip rfl rfl ?_; simp only [Act.put, List.setIfInBounds_toArray, List.set_cons_zero, List.set_cons_succ]))
  refine scall rfl rfl (fun K hK => ?_)
  go_simp
  refine (rdec_any k _ hk.1 hk.2).mono ?_; rintro e w5 ⟨rfl, b5⟩
  go_wp2_with fail
  refine hK.out _ _ (by exact b5) ?_
  clear hK K
  try simp only [Act.put, List.setIfInBounds_toArray, List.set_cons_zero, List.set_cons_succ]
  replace q := fun (W : World) (hW : Grow w5 W) => q W (Grow.trans (b5) hW)
  have B5 := bthen B4 b5
  generalize decL k = dk at *
  repeat (first | (refine sreadx rfl rfl ?_; apply Exists.intro; apply And.intro; (· (intro W hW; first | (go_simp; done) | (go_simp; with_reducible rfl) | (go_simp; rw [if_neg (by omega)]; done) | (go_simp; rw [if_neg (by omega)]; with_reducible rfl))); simp only [Act.put, List.setIfInBounds_toArray, List.set_cons_zero, List.set_cons_succ]) | (refine sskip rfl rfl ?_; simp only [Act.put, List.setIfInBounds_toArray, List.set_cons_zero, List.set_cons_succ]))
  refine sdone ?_
  obtain ⟨x0, x1, x2, x3⟩ := cells4d (box_next HX1.out B5)
  have HW5 := Lib.hid (HW1.out.trans (B5.mono HW1.out.size))
  rw [cats]
  obtain ⟨H, hH⟩ : ∃ H, jn [codeW, dr, dl, dk] ++ [10] = H := ⟨_, rfl⟩
  have hHl : H.length ≤ 201 := by rw [← hH]; simp; omega
  have HH : Hid (headL r l k ++ [10] = H) := Lib.hid (by rw [hjn]; exact hH)
  rw [hH]
  clear hH hhl B5 B4 B3 B0 b3 b4 b5 q HX1 HW1 hjn hdr hdl hdk
  go_wp2_with fail
  go_loopw [3, 24] (fun sv iv wr => ∃ j : Nat, j ≤ n ∧ iv = .int .i64 (j : Int) ∧ sv = .string ⟨(H ++ rowsL (xs.take j)).toArray⟩ ∧ Hid (Below w.heap.size w wr)) (fun _ iv _ => n - (intOf iv).toNat)
  case atStart => exact ⟨0, by omega, rfl, by simp [rowsL], HW5⟩
  case round =>
    obtain ⟨j, hj, rfl, rfl, HW⟩ := hrel
    clear HW5 x0 x1 x2 x3
    by_cases hlt : j < n
    · have hjl : j < xs.length := by rw [HXL.out]; exact hlt
      have hji : (j : Int) < (n : Int) := by omega
      obtain ⟨b1, off, rfl, hbl, hc⟩ := HV.out.at8 hjl
      obtain ⟨c0, c1, c2, c3, c4, c5, c6, c7⟩ := hc wr HW.out
      have hst := Lib.hid (rows_take hjl)
      have hok := Lib.hid (HO.out _ (List.getElem_mem hjl))
      have hpl := hok.out.len
      have hrj : (rowsL (xs.take j)).length ≤ 5000 * 20001 := by
        have h1 := rows_len (xs.take j) (fun x hx => HO.out x (List.mem_of_mem_take hx))
        have h2 : (xs.take j).length ≤ 5000 := by rw [List.length_take]; omega
        omega
      clear hc
      generalize xs[j] = x at *
      obtain ⟨pre, hpre⟩ : ∃ pre, H ++ rowsL (xs.take j) = pre := ⟨_, rfl⟩
      have hprel : pre.length ≤ 100005300 := by rw [← hpre]; simp; omega
      have HPRE := Lib.hid hpre
      rw [hpre]
      clear hpre
      have hA : ∀ o, Below wr.heap.size wr (wr.alloc o) := fun o => (Below.refl _ _).alloc (Nat.le_refl _) o
      go_wp2_with fail
      refine (rcprint_any x _ hok.out.s hok.out.f hok.out.v).mono ?_; rintro e w4 ⟨rfl, b4⟩
      have HW4 := Lib.hid (HW.out.trans ((bthen (hA _) b4).mono HW.out.size))
      clear b4 hA c0 c1 c2 c3 c4 c5 c6 c7
      generalize printI x = pl at *
      go_wp2_with fail
      go_roundw
      case rel => exact ⟨j + 1, by omega, by go_num, by rw [cat10, ba_append, hst.out, ← HPRE.out]; simp, HW4⟩
      case measure => simp [intOf]; omega
    · obtain rfl : j = n := by omega
      have hlk : xs.take j = xs := List.take_of_length_le (by rw [HXL.out]; omega)
      rw [hlk]
      go_wp2_with fail
      go_ret
      exact ⟨by rw [← HH.out]; rfl, HW.out⟩
end Go.Proofs.YtpodniljpinigaaDoor.C
