/- The contracts of record's reader, at bytes that record.Put has put: must, number, value, rows of values, values. -/
import Derived.Test.YtpkoijlbbfffiaaRecPut3
import Derived.Deep.DeepCutAuto
namespace Go.Proofs.Ytpkoijlbbfffiaa.R
open Go.RowKit O V

theorem gb_trans {a b c : World} {row : Option Nat} (h : a.grownBy b row) (k : b.grownBy c row) : a.grownBy c row :=
  ⟨k.os.trans h.os, k.tape.trans h.tape, k.output.trans h.output, Nat.le_trans h.size k.size, fun i hi hne => (k.block i (Nat.lt_of_lt_of_le hi h.size) hne).trans (h.block i hi hne)⟩
theorem gb_below {a b : World} (h : Below a.heap.size a b) (row : Option Nat) : a.grownBy b row := grown_of_below h row
theorem gb_set (w : World) (g j : Nat) (v : Value) : w.grownBy (w.setCell ⟨g, j, none⟩ v) (some g) := ⟨rfl, rfl, rfl, by simp, fun i _ hi => Below.heap_setCell _ _ _ _ (fun e => hi (by rw [e]))⟩
theorem gb_to_below {a b : World} {g : Nat} (h : a.grownBy b (some g)) (hg : g ≤ a.heap.size) : Below g a b := ⟨h.os, h.tape, h.output, h.size, fun k hk => h.block k (by omega) (fun e => by injection e with e; omega)⟩
theorem heap_set {w : World} {b i : Nat} {cs : Array Value} {T : TypeId} (hb : w.heap[b]? = some (.cells cs T (0, 0))) (v : Value) : (w.setCell ⟨b, i, none⟩ v).heap[b]? = some (.cells (cs.setIfInBounds i v) T (0, 0)) := by
  simp [World.setCell, Array.getElem?_modify, hb]
/-- The reader at block g goes through the bytes l and has come to the place k. -/
structure Rdr (w : World) (g : Nat) (A : Option Addr) (n c : Nat) (l : List UInt8) (k : Nat) : Prop where
  box : w.heap[g]? = some (.cells #[.slice A n c, .int .i64 (k : Int)] 152 (0, 0))
  row : Rd w g 1 A n (bv l)
  cap : n ≤ c ∧ c ≤ 9223372036854775807
  n : n ≤ 1000000000000
theorem Rdr.lt {w : World} {g : Nat} {A : Option Addr} {n c : Nat} {l : List UInt8} {k : Nat} (h : Rdr w g A n c l k) : g < w.heap.size := (Array.getElem?_eq_some_iff.1 h.box).1
theorem Rdr.len {w : World} {g : Nat} {A : Option Addr} {n c : Nat} {l : List UInt8} {k : Nat} (h : Rdr w g A n c l k) : l.length = n := by have := h.row.1; simp at this; omega
theorem Rdr.next {w W : World} {g : Nat} {A : Option Addr} {n c : Nat} {l : List UInt8} {k : Nat} (h : Rdr w g A n c l k) (b : Below w.heap.size w W) : Rdr W g A n c l k :=
  ⟨box_next h.box b, h.row.below (b.mono (Nat.le_of_lt h.lt)), h.cap, h.n⟩
theorem Rdr.set {w : World} {g : Nat} {A : Option Addr} {n c : Nat} {l : List UInt8} {k j : Nat} (h : Rdr w g A n c l k) {x : Int} (hx : x = (j : Int)) : Rdr (w.setCell ⟨g, 1, none⟩ (.int .i64 x)) g A n c l j := by
  subst hx
  exact ⟨by have := heap_set (i := 1) h.box (.int .i64 (j : Int)); exact this, h.row.setCell (Nat.le_refl _) _, h.cap, h.n⟩
theorem Rdr.cells {w : World} {g : Nat} {A : Option Addr} {n c : Nat} {l : List UInt8} {k : Nat} (h : Rdr w g A n c l k) : w.cell? ⟨g, 0, none⟩ = some (.slice A n c) ∧ w.cell? ⟨g, 1, none⟩ = some (.int .i64 (k : Int)) :=
  ⟨by rw [Lib.cell_of_heap h.box]; rfl, by rw [Lib.cell_of_heap h.box]; rfl⟩
theorem Rdr.free {w : World} {g : Nat} {A : Option Addr} {n c : Nat} {l : List UInt8} {k : Nat} (h : Rdr w g A n c l k) (j : Nat) : w.frozen? ⟨g, j, none⟩ = false := Lib.frozen_of_heap h.box j
theorem Rdr.other {w : World} {g : Nat} {A : Option Addr} {n c : Nat} {l : List UInt8} {k b i : Nat} (h : Rdr w g A n c l k) (hb : g < b) (v : Value) : Rdr (w.setCell ⟨b, i, none⟩ v) g A n c l k :=
  ⟨by rw [Below.heap_setCell _ _ _ _ (by simp only; omega)]; exact h.box, h.row.setCell (Nat.le_of_lt hb) _, h.cap, h.n⟩
theorem gb_new {a b : World} {row : Option Nat} (h : a.grownBy b row) {p : Nat} (hp : a.heap.size ≤ p) (i : Nat) (v : Value) : a.grownBy (b.setCell ⟨p, i, none⟩ v) row :=
  ⟨h.os, h.tape, h.output, by simpa using h.size, fun k hk hne => (Below.heap_setCell _ _ _ _ (by simp only; omega)).trans (h.block k hk hne)⟩
theorem must_yes (w : World) : Calls Try.prog 126 #[.bool true] w fun e w' => e = .returned (.tuple #[]) ∧ w = w' := by
  go_enter Try.func126, Try.ntmps126
  go_wp2_with fail
  go_end0
  exact ⟨rfl, rfl⟩
/-- What a reading method leaves. -/
def RetR (g : Nat) (A : Option Addr) (n c : Nat) (l : List UInt8) (k : Nat) (v : Value) (w : World) (e : Ending) (w' : World) : Prop := e = .returned v ∧ Rdr w' g A n c l k ∧ w.grownBy w' (some g)
theorem at_u (pre rest : List UInt8) (u : Nat) (h : u < 18446744073709551616) : getUAt (pre ++ (uintL u ++ rest)) ((pre.length : Nat) : Int) = some (u, (uintL u).length) := by
  unfold getUAt
  rw [if_pos (by simp only [List.length_append]; omega)]
  simp only [Int.toNat_natCast, List.drop_left]
  exact getU_put u rest h
set_option maxHeartbeats 1000000 in
set_option maxRecDepth 100000 in
theorem rnumber_any (g : Nat) (A : Option Addr) (n c : Nat) (pre rest : List UInt8) (u : Nat) (w : World) (h : Rdr w g A n c (pre ++ (uintL u ++ rest)) pre.length) (hu : u ≤ 1073741824) :
    Calls Try.prog 114 #[.pointer (some ⟨g, 0, none⟩)] w (RetR g A n c (pre ++ (uintL u ++ rest)) (pre.length + (uintL u).length) (.int .i64 (u : Int)) w) := by
  have hg := h.lt
  have hat := at_u pre rest u (by omega)
  have hl := h.len
  have hcap := h.cap
  have hn := h.n
  have HR := Lib.hid h
  have HA := Lib.hid hat
  have hkn : pre.length + (uintL u).length ≤ n := by rw [← hl]; simp
  clear h hat hl
  generalize hL : pre ++ (uintL u ++ rest) = L at *
  clear hL
  generalize hk : pre.length = k at *
  clear hk
  go_enter Try.func114, Try.ntmps114
  go_wp2_with fail
  refine wp_region_sched [(0, true), (1, true), (2, true), (3, true), (4, true), (5, true), (6, true), (7, true), (8, false), (9, true), (10, true), (11, true), (12, true), (13, true), (14, true), (15, true)] (by kernel_rfl) (by kernel_rfl) (fun _ _ d _ _ h => by cases d <;> exact h) ?_
  refine swith (fun W hW => (HR.out.next ((Below.refl _ _).drew.trans (hW.out.mono (Nat.le_refl _)))).cells) (fun q => ?_)
  repeat (first | (refine sreadx rfl rfl ?_; apply Exists.intro; apply And.intro; (· (intro W hW; first | (go_simp; done) | (go_simp; with_reducible rfl) | (go_simp; rw [if_neg (by omega)]; done) | (go_simp; rw [if_neg (by omega)]; with_reducible rfl))); simp only [Act.put, List.setIfInBounds_toArray, List.set_cons_zero, List.set_cons_succ]) | (refine sskip rfl rfl ?_; simp only [Act.put, List.setIfInBounds_toArray, List.set_cons_zero, List.set_cons_succ]))
  refine scall rfl rfl (fun K hK => ?_)
  go_simp
  refine (getUint_any A n c (k : Int) L _ ((HR.out.row.more (Nat.le_of_lt hg)).drew) hcap.1 (by omega) hcap.2).mono ?_; rintro e w2 ⟨rfl, rfl⟩; rw [HA.out]; simp only [resU]
  go_wp2_with fail
  refine hK.out _ _ (by exact Grow.refl _) ?_
  clear hK K
  try simp only [Act.put, List.setIfInBounds_toArray, List.set_cons_zero, List.set_cons_succ]
  repeat (first | (refine sreadx rfl rfl ?_; apply Exists.intro; apply And.intro; (· (intro W hW; first | (go_simp; done) | (go_simp; with_reducible rfl) | (go_simp; rw [if_neg (by omega)]; done) | (go_simp; rw [if_neg (by omega)]; with_reducible rfl))); simp only [Act.put, List.setIfInBounds_toArray, List.set_cons_zero, List.set_cons_succ]) | (refine sskip rfl rfl ?_; simp only [Act.put, List.setIfInBounds_toArray, List.set_cons_zero, List.set_cons_succ]))
  refine sdone ?_
  have B2 : Below w.heap.size w w.drew := (Below.refl _ _).drew
  have R2 := Lib.hid (HR.out.next B2)
  clear q
  obtain ⟨x0, x1⟩ := R2.out.cells
  have xf := R2.out.free 1
  have d1 : decide ((u : Int) ≤ 1073741824) = true := by simp; omega
  go_wp2_with fail
  refine (must_yes _).mono ?_; rintro e w3 ⟨rfl, rfl⟩
  go_wp2_with fail
  go_ret
  exact ⟨rfl, R2.out.set (by omega), gb_trans (gb_below B2 _) (gb_set _ _ _ _)⟩
theorem putV_head {x : Val} (h : right x = true) : ∃ b tl, putV x = b :: tl ∧ b.toNat ≠ 0 := by
  obtain ⟨k, n, s⟩ := x
  rcases right_cases h with ⟨e, _⟩ | ⟨e, _⟩ | ⟨e, _⟩
  all_goals (simp only at e; subst e)
  · exact ⟨1, _, putV_one h, by decide⟩
  · exact ⟨2, _, putV_two h, by decide⟩
  · exact ⟨3, _, putV_three h, by decide⟩
theorem row_at {w : World} {B : Nat} {A : Option Addr} {n : Nat} {l : List UInt8} (h : Rd w B 1 A n (bv l)) {k : Nat} (hk : k < l.length) : ∃ b off, A = some ⟨b, off, none⟩ ∧ b < B ∧ ∀ W, Below B w W → W.cell? ⟨b, off + k, none⟩ = some (.int .u8 ((l[k]).toNat : Int)) := by
  have hl : l.length = n := by have := h.1; simp at this; omega
  obtain ⟨b, off, rfl, hb, hc⟩ := h.pos (k := k) (by omega)
  refine ⟨b, off, rfl, hb, fun W bW => ?_⟩
  rw [bW.cell (p := ⟨b, off + k, none⟩) hb, hc k (by omega), bv_get l k hk]
set_option maxHeartbeats 1000000 in
set_option maxRecDepth 100000 in
theorem rvalue_zero (g : Nat) (A : Option Addr) (n c k : Nat) (L : List UInt8) (w : World) (h : Rdr w g A n c L k) (hk : k < L.length) (h0 : (L[k]).toNat = 0) :
    Calls Try.prog 148 #[.pointer (some ⟨g, 0, none⟩)] w (RetR g A n c L (k + 1) (vv ⟨0, 0, []⟩) w) := by
  have hg := h.lt
  have hl := h.len
  have hcap := h.cap
  have hn := h.n
  have HR := Lib.hid h
  obtain ⟨b, off, rfl, hb, hc⟩ := row_at h.row hk
  rw [h0] at hc
  have HC := Lib.hid hc
  have hkn : k < n := by omega
  have hne : g ≠ w.heap.size := by omega
  have d1 : decide ((k : Int) < (n : Int)) = true := by simp; omega
  have d1' : decide (k < n) = true := by simp; omega
  have e1 : (((0 : Nat) : Int) == 0) = true := rfl
  clear h hl hk h0 hc
  have hz : Hid ((w.alloc (.cells #[.int .i64 0, .int .i64 0, .string ⟨#[]⟩] 23)).heap[w.heap.size]? = some (.cells #[.int .i64 0, .int .i64 0, .string ⟨#[]⟩] 23 (0, 0))) := Lib.hid (alloc_at rfl)
  go_enter Try.func148, Try.ntmps148
  go_wp2_with fail
  refine wp_region_sched [(0, true), (1, true), (2, true), (3, true), (4, true), (5, true), (6, true), (7, true), (8, true), (9, true), (10, true), (11, true), (12, true), (13, true), (14, true), (15, true), (16, true), (17, true), (18, true), (19, true), (20, true), (21, true), (22, true)] (by kernel_rfl) (by kernel_rfl) (fun _ _ d _ _ h => by cases d <;> exact h) ?_
  refine swith (fun W hW => (HR.out.next (((Below.refl w.heap.size w).alloc (Nat.le_refl _) _).drew.trans (hW.out.mono (by simp)))).cells) (fun q => ?_)
  refine swith (fun W hW => (HC.out W ((((Below.refl g w).alloc (Nat.le_of_lt hg) _).drew).trans (hW.out.mono (by simp; omega))))) (fun q2 => ?_)
  repeat (first | (refine sreadx rfl rfl ?_; apply Exists.intro; apply And.intro; (· (intro W hW; first | (go_simp; done) | (go_simp; with_reducible rfl) | (go_simp; rw [if_neg (by omega)]; done) | (go_simp; rw [if_neg (by omega)]; with_reducible rfl))); simp only [Act.put, List.setIfInBounds_toArray, List.set_cons_zero, List.set_cons_succ]) | (refine sskip rfl rfl ?_; simp only [Act.put, List.setIfInBounds_toArray, List.set_cons_zero, List.set_cons_succ]))
  refine sdone ?_
  clear q q2
  have B1 : Below w.heap.size w (w.alloc (.cells #[.int .i64 0, .int .i64 0, .string ⟨#[]⟩] 23)).drew := ((Below.refl _ _).alloc (Nat.le_refl _) _).drew
  have R1 := Lib.hid (HR.out.next B1)
  have HB1 := Lib.hid B1
  clear B1
  obtain ⟨x0, x1⟩ := R1.out.cells
  have xf := R1.out.free 1
  go_wp2_with fail
  refine bodyPost_ret (v := vv ⟨0, 0, []⟩) (by simp [results, Try.results148, go_sem, vv]) rfl ?_
  exact ⟨rfl, (HR.out.set (by omega)).next (((Below.refl _ _).alloc (Nat.le_refl _) _).drew), gb_trans (gb_set w g 1 _) (gb_below (((Below.refl _ _).alloc (Nat.le_refl _) _).drew) _)⟩
theorem KB.of_two {bs : List Nat} {N : Nat} {Wz w W : World} (h1 : Below N Wz w) (h2 : Below N Wz W) (hb : ∀ b ∈ bs, b < N) : KB bs w W := fun b hx => (h2.block b (hb b hx)).trans (h1.block b (hb b hx)).symm
set_option maxHeartbeats 2000000 in
set_option maxRecDepth 100000 in
theorem rvalue_yes (g : Nat) (A : Option Addr) (n c k : Nat) (L : List UInt8) (x : Val) (j : Nat) (w : World) (h : Rdr w g A n c L k) (hk : k < L.length) (h0 : (L[k]).toNat ≠ 0) (hv : getV L (k : Int) = some (x, j)) :
    Calls Try.prog 148 #[.pointer (some ⟨g, 0, none⟩)] w (RetR g A n c L (k + j) (vv x) w) := by
  have hg := h.lt
  have hl := h.len
  have hcap := h.cap
  have hn := h.n
  have HR := Lib.hid h
  have HV := Lib.hid hv
  obtain ⟨b, off, rfl, hb, hc⟩ := row_at h.row hk
  have HC := Lib.hid hc
  have hkn : k < n := by omega
  have hne : g ≠ w.heap.size := by omega
  have d1 : decide ((k : Int) < (n : Int)) = true := by simp; omega
  have d1' : decide (k < n) = true := by simp; omega
  have e1 : (((L[k]).toNat : Int) == 0) = false := by simp; omega
  clear h hl h0 hc hv
  generalize L[k] = c0 at *
  clear hk
  have hz : Hid ((w.alloc (.cells #[.int .i64 0, .int .i64 0, .string ⟨#[]⟩] 23)).drew.heap[w.heap.size]? = some (.cells #[.int .i64 0, .int .i64 0, .string ⟨#[]⟩] 23 (0, 0))) := Lib.hid (alloc_at rfl)
  go_enter Try.func148, Try.ntmps148
  go_wp2_with fail
  refine wp_region_sched [(0, true), (1, true), (2, true), (3, true), (4, true), (5, true), (6, true), (7, true), (8, true), (9, true), (10, true), (11, true), (12, true), (13, true), (14, true), (15, true), (16, true), (17, true), (18, true), (19, true), (20, true), (21, true), (22, true)] (by kernel_rfl) (by kernel_rfl) (fun _ _ d _ _ h => by cases d <;> exact h) ?_
  refine swith (fun W hW => (HR.out.next (((Below.refl w.heap.size w).alloc (Nat.le_refl _) _).drew.trans (hW.out.mono (by simp)))).cells) (fun q => ?_)
  refine swith (fun W hW => (HC.out W ((((Below.refl g w).alloc (Nat.le_of_lt hg) _).drew).trans (hW.out.mono (by simp; omega))))) (fun q2 => ?_)
  repeat (first | (refine sreadx rfl rfl ?_; apply Exists.intro; apply And.intro; (· (intro W hW; first | (go_simp; done) | (go_simp; with_reducible rfl) | (go_simp; rw [if_neg (by omega)]; done) | (go_simp; rw [if_neg (by omega)]; with_reducible rfl))); simp only [Act.put, List.setIfInBounds_toArray, List.set_cons_zero, List.set_cons_succ]) | (refine sskip rfl rfl ?_; simp only [Act.put, List.setIfInBounds_toArray, List.set_cons_zero, List.set_cons_succ]))
  refine sdone ?_
  clear q q2
  have B1 : Below w.heap.size w (w.alloc (.cells #[.int .i64 0, .int .i64 0, .string ⟨#[]⟩] 23)).drew := ((Below.refl _ _).alloc (Nat.le_refl _) _).drew
  obtain ⟨w1, hw1⟩ : ∃ w1, (w.alloc (.cells #[.int .i64 0, .int .i64 0, .string ⟨#[]⟩] 23)).drew = w1 := ⟨_, rfl⟩
  rw [hw1] at hz B1 ⊢
  clear hw1
  have HB1 := Lib.hid B1
  have R1 := Lib.hid (HR.out.next B1)
  have hlt1 : w.heap.size < w1.heap.size := (Array.getElem?_eq_some_iff.1 hz.out).1
  clear B1
  go_wp2_with fail
  refine wp_region_plan [g] (.read 0 (.read 1 (.read 2 (.read 3 (.read 4 (.read 5 (.read 6 (.read 7 (.two 8 13 (.read 9 (.read 10 (.read 11 (.read 12 (.call 13 (.call 14 (.read 15 (.read 16 .done)))))))) (.call 8 (.read 9 (.read 10 (.read 11 (.read 12 (.call 14 (.read 15 (.read 16 .done))))))))))))))))) (by kernel_rfl) (by kernel_rfl) (fun _ _ d _ _ h => by cases d <;> exact h) ?_
  refine pwith (fun W hW => (show W.cell? ⟨g, 0, none⟩ = some (.slice (some ⟨b, off, none⟩) n c) ∧ W.cell? ⟨g, 1, none⟩ = some (.int .i64 (k : Int)) from ⟨by rw [Lib.cell_of_heap ((hW _ (by simp)).trans R1.out.box)]; rfl, by rw [Lib.cell_of_heap ((hW _ (by simp)).trans R1.out.box)]; rfl⟩)) (fun q => ?_)
  repeat (first | (refine sreadxP rfl rfl ?_; apply Exists.intro; apply And.intro; (· (intro W hW; first | (go_simp; done) | (go_simp; with_reducible rfl) | (go_simp; rw [if_neg (by omega)]; done) | (go_simp; rw [if_neg (by omega)]; with_reducible rfl))); simp only [Act.put, List.setIfInBounds_toArray, List.set_cons_zero, List.set_cons_succ]) | (refine pskip rfl rfl ?_; simp only [Act.put, List.setIfInBounds_toArray, List.set_cons_zero, List.set_cons_succ]))
  clear q
  refine ptwo rfl rfl rfl rfl ?_ ?_
  · intro K hK
    go_simp
    refine (get_any (some ⟨b, off, none⟩) n c (k : Int) L _ (R1.out.row.drew.more (show g ≤ w1.drew.heap.size by simp; omega)) hcap.1 (by omega) hcap.2).mono ?_; rintro e w2 ⟨rfl, b2⟩; rw [HV.out]; simp only [resV, vv]
    go_wp2_with fail
    refine hK.out _ _ (by exact KB.of_below b2 (by simp; omega)) ?_
    clear hK K
    try simp only [Act.put, List.setIfInBounds_toArray, List.set_cons_zero, List.set_cons_succ]
    have HB2 : Hid (Below w1.heap.size w1 w2) := Lib.hid ((Below.refl _ _).drew.trans (b2.mono (Nat.le_refl _)))
    have hlt2 : w1.heap.size ≤ w2.heap.size := HB2.out.size
    clear b2
    repeat (first | (refine sreadxP rfl rfl ?_; apply Exists.intro; apply And.intro; (· (intro W hW; first | (go_simp; done) | (go_simp; with_reducible rfl) | (go_simp; rw [if_neg (by omega)]; done) | (go_simp; rw [if_neg (by omega)]; with_reducible rfl))); simp only [Act.put, List.setIfInBounds_toArray, List.set_cons_zero, List.set_cons_succ]) | (refine pskip rfl rfl ?_; simp only [Act.put, List.setIfInBounds_toArray, List.set_cons_zero, List.set_cons_succ]))
    refine pcall rfl rfl (fun K hK => ?_)
    go_simp
    refine hK.out _ _ (KB.of_below ((Below.refl _ _).alloc (Nat.le_refl _) _) (by simp; omega)) ?_
    clear hK K
    try simp only [Act.put, List.setIfInBounds_toArray, List.set_cons_zero, List.set_cons_succ]
    refine pcall rfl rfl (fun K hK => ?_)
    go_simp
    refine hK.out _ _ (KB.of_two (N := w2.heap.size) (Wz := w2) ((Below.refl _ _).alloc (Nat.le_refl _) _) ((Below.refl _ _).alloc (Nat.le_refl _) _) (by simp; omega)) ?_
    clear hK K
    try simp only [Act.put, List.setIfInBounds_toArray, List.set_cons_zero, List.set_cons_succ]
    repeat (first | (refine sreadxP rfl rfl ?_; apply Exists.intro; apply And.intro; (· (intro W hW; first | (go_simp; done) | (go_simp; with_reducible rfl) | (go_simp; rw [if_neg (by omega)]; done) | (go_simp; rw [if_neg (by omega)]; with_reducible rfl))); simp only [Act.put, List.setIfInBounds_toArray, List.set_cons_zero, List.set_cons_succ]) | (refine pskip rfl rfl ?_; simp only [Act.put, List.setIfInBounds_toArray, List.set_cons_zero, List.set_cons_succ]))
    refine pdone ?_
    have X3 : Hid ((w2.alloc (.cells #[.int .i64 x.k, .int .i64 x.n, .string ⟨x.s.toArray⟩] 23)).heap[w2.heap.size]? = some (.cells #[.int .i64 x.k, .int .i64 x.n, .string ⟨x.s.toArray⟩] 23 (0, 0))) := Lib.hid (alloc_at rfl)
    have B3 : Hid (Below w1.heap.size w1 (w2.alloc (.cells #[.int .i64 x.k, .int .i64 x.n, .string ⟨x.s.toArray⟩] 23))) := Lib.hid (HB2.out.alloc hlt2 _)
    obtain ⟨b3, hb3⟩ : ∃ b3, w2.heap.size = b3 := ⟨_, rfl⟩
    obtain ⟨wF, hwF⟩ : ∃ wF, (w2.alloc (.cells #[.int .i64 x.k, .int .i64 x.n, .string ⟨x.s.toArray⟩] 23)) = wF := ⟨_, rfl⟩
    rw [hwF] at X3 B3 ⊢
    rw [hb3] at X3 hlt2 ⊢
    clear hb3 hwF HB2
    have R3 := Lib.hid (R1.out.next B3.out)
    have hz3 := Lib.hid (box_next hz.out B3.out)
    obtain ⟨x0, x1⟩ := R3.out.cells
    have xf := R3.out.free 1
    obtain ⟨y0, y1, y2⟩ := cells3 X3.out
    obtain ⟨z0, z1, z2⟩ := cells3 hz3.out
    have zf := fun j => Lib.frozen_of_heap hz3.out j
    have zf0 := zf 0
    have zf1 := zf 1
    have zf2 := zf 2
    clear zf
    go_wp2_with fail
    refine (must_yes _).mono ?_; rintro e w5 ⟨rfl, rfl⟩
    go_wp2_with fail
    refine bodyPost_ret (v := vv x) (by simp [results, Try.results148, go_sem, vv, z0, z1, z2]) rfl ?_
    exact ⟨rfl, (((R3.out.set (by omega)).other hg _).other hg _).other hg _, gb_new (gb_new (gb_new (gb_trans (gb_below (bthen HB1.out B3.out) _) (gb_set _ _ _ _)) (Nat.le_refl _) _ _) (Nat.le_refl _) _ _) (Nat.le_refl _) _ _⟩
  · intro K hK
    go_simp
    refine hK.out _ _ (KB.of_two (N := w1.heap.size) (Wz := w1) ((Below.refl _ _).drew) (((Below.refl _ _).alloc (Nat.le_refl _) _).drew) (by simp; omega)) ?_
    clear hK K
    try simp only [Act.put, List.setIfInBounds_toArray, List.set_cons_zero, List.set_cons_succ]
    obtain ⟨b3, hb3⟩ : ∃ b3, w1.heap.size = b3 := ⟨_, rfl⟩
    have X2 : Hid ((w1.alloc (.cells #[.int .i64 0, .int .i64 0, .string ⟨#[]⟩] 23)).drew.heap[b3]? = some (.cells #[.int .i64 0, .int .i64 0, .string ⟨#[]⟩] 23 (0, 0))) := Lib.hid (alloc_at hb3.symm)
    have B2 : Hid (Below w1.heap.size w1 (w1.alloc (.cells #[.int .i64 0, .int .i64 0, .string ⟨#[]⟩] 23)).drew) := Lib.hid (((Below.refl _ _).alloc (Nat.le_refl _) _).drew)
    obtain ⟨w2, hw2⟩ : ∃ w2, (w1.alloc (.cells #[.int .i64 0, .int .i64 0, .string ⟨#[]⟩] 23)).drew = w2 := ⟨_, rfl⟩
    rw [hw2] at X2 B2 ⊢
    rw [hb3] at ⊢
    have HB3 := Lib.hid hb3
    have hgb : g < b3 := by omega
    have hgb2 : w.heap.size < b3 := by omega
    clear hw2 hb3
    have R2 := Lib.hid (R1.out.next B2.out)
    have hg2 := R2.out.lt
    refine pcall rfl rfl (fun K hK => ?_)
    go_simp
    refine (get_any (some ⟨b, off, none⟩) n c (k : Int) L _ (R2.out.row.more (by omega)) hcap.1 (by omega) hcap.2).mono ?_; rintro e w3 ⟨rfl, b3'⟩; rw [HV.out]; simp only [resV, vv]
    go_wp2_with fail
    refine hK.out _ _ (by exact KB.of_below b3' (by simp; omega)) ?_
    clear hK K
    try simp only [Act.put, List.setIfInBounds_toArray, List.set_cons_zero, List.set_cons_succ]
    have X3 := Lib.hid (box_next X2.out b3')
    have HB := Lib.hid (bthen B2.out b3')
    have hbx := Lib.hid b3'
    clear b3' X2 R2 hg2
    repeat (first | (refine sreadxP rfl rfl ?_; apply Exists.intro; apply And.intro; (· (intro W hW; first | (go_simp; done) | (go_simp; with_reducible rfl) | (go_simp; rw [if_neg (by omega)]; done) | (go_simp; rw [if_neg (by omega)]; with_reducible rfl))); simp only [Act.put, List.setIfInBounds_toArray, List.set_cons_zero, List.set_cons_succ]) | (refine pskip rfl rfl ?_; simp only [Act.put, List.setIfInBounds_toArray, List.set_cons_zero, List.set_cons_succ]))
    obtain ⟨y0, y1, y2⟩ := cells3 X3.out
    have yf0 := Lib.frozen_of_heap X3.out 0
    have yf1 := Lib.frozen_of_heap X3.out 1
    have yf2 := Lib.frozen_of_heap X3.out 2
    refine pcall rfl rfl (fun K hK => ?_)
    go_simp
    refine hK.out _ _ (fun b hb => by simp at hb; subst hb; rw [Below.heap_setCell _ _ _ _ (by simp only; omega), Below.heap_setCell _ _ _ _ (by simp only; omega), Below.heap_setCell _ _ _ _ (by simp only; omega)]) ?_
    clear hK K
    try simp only [Act.put, List.setIfInBounds_toArray, List.set_cons_zero, List.set_cons_succ]
    repeat (first | (refine sreadxP rfl rfl ?_; apply Exists.intro; apply And.intro; (· (intro W hW; first | (go_simp; done) | (go_simp; with_reducible rfl) | (go_simp; rw [if_neg (by omega)]; done) | (go_simp; rw [if_neg (by omega)]; with_reducible rfl))); simp only [Act.put, List.setIfInBounds_toArray, List.set_cons_zero, List.set_cons_succ]) | (refine pskip rfl rfl ?_; simp only [Act.put, List.setIfInBounds_toArray, List.set_cons_zero, List.set_cons_succ]))
    refine pdone ?_
    have X4 : Hid ((((w3.setCell ⟨b3, 0, none⟩ (.int .i64 x.k)).setCell ⟨b3, 1, none⟩ (.int .i64 x.n)).setCell ⟨b3, 2, none⟩ (.string ⟨x.s.toArray⟩)).heap[b3]? = some (.cells #[.int .i64 x.k, .int .i64 x.n, .string ⟨x.s.toArray⟩] 23 (0, 0))) := Lib.hid (by
      have := heap_set (i := 2) (heap_set (i := 1) (heap_set (i := 0) X3.out (.int .i64 x.k)) (.int .i64 x.n)) (.string ⟨x.s.toArray⟩)
      exact this)
    have hle : w1.heap.size ≤ b3 := by have := HB3.out; omega
    have B4 : Hid (Below w1.heap.size w1 (((w3.setCell ⟨b3, 0, none⟩ (.int .i64 x.k)).setCell ⟨b3, 1, none⟩ (.int .i64 x.n)).setCell ⟨b3, 2, none⟩ (.string ⟨x.s.toArray⟩))) := Lib.hid (((HB.out.setCell hle _).setCell hle _).setCell hle _)
    obtain ⟨wF, hwF⟩ : ∃ wF, ((w3.setCell ⟨b3, 0, none⟩ (.int .i64 x.k)).setCell ⟨b3, 1, none⟩ (.int .i64 x.n)).setCell ⟨b3, 2, none⟩ (.string ⟨x.s.toArray⟩) = wF := ⟨_, rfl⟩
    rw [hwF] at X4 B4 ⊢
    clear hwF X3 HB hbx y0 y1 y2 yf0 yf1 yf2
    have X3 := X4
    have B3 := B4
    clear X4 B4
    have R3 := Lib.hid (R1.out.next B3.out)
    have hz3 := Lib.hid (box_next hz.out B3.out)
    obtain ⟨x0, x1⟩ := R3.out.cells
    have xf := R3.out.free 1
    obtain ⟨y0, y1, y2⟩ := cells3 X3.out
    obtain ⟨z0, z1, z2⟩ := cells3 hz3.out
    have zf := fun j => Lib.frozen_of_heap hz3.out j
    have zf0 := zf 0
    have zf1 := zf 1
    have zf2 := zf 2
    clear zf
    go_wp2_with fail
    refine (must_yes _).mono ?_; rintro e w5 ⟨rfl, rfl⟩
    go_wp2_with fail
    refine bodyPost_ret (v := vv x) (by simp [results, Try.results148, go_sem, vv, z0, z1, z2]) rfl ?_
    exact ⟨rfl, (((R3.out.set (by omega)).other hg _).other hg _).other hg _, gb_new (gb_new (gb_new (gb_trans (gb_below (bthen HB1.out B3.out) _) (gb_set _ _ _ _)) (Nat.le_refl _) _ _) (Nat.le_refl _) _ _) (Nat.le_refl _) _ _⟩
end Go.Proofs.Ytpkoijlbbfffiaa.R
