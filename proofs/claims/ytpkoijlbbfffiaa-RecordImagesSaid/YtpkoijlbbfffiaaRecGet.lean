/- The contracts of record's reader, at bytes that record.Put has put: must, number, value, rows of values, values. -/
/- The contracts of record's reader at rows of values. -/
/- The contracts of record's reader at changes. -/
import Derived.Test.YtpkoijlbbfffiaaRecPut3
import Derived.Deep.DeepCutAuto
import Derived.IntWalk
namespace Go.Proofs.Ytpkoijlbbfffiaa.R
open Go.RowKit O V

theorem gb_trans {a b c : World} {row : Option Nat} (h : a.grownBy b row) (k : b.grownBy c row) : a.grownBy c row :=
  ⟨k.os.trans h.os, k.tape.trans h.tape, k.output.trans h.output, Nat.le_trans h.size k.size, fun i hi hne => (k.block i (Nat.lt_of_lt_of_le hi h.size) hne).trans (h.block i hi hne)⟩
theorem gb_below {a b : World} (h : Below a.heap.size a b) (row : Option Nat) : a.grownBy b row := grown_of_below h row
theorem gb_set (w : World) (g j : Nat) (v : Value) : w.grownBy (w.setCell ⟨g, j, none⟩ v) (some g) := ⟨rfl, rfl, rfl, by simp, fun i _ hi => Below.heap_setCell _ _ _ _ (fun e => hi (by rw [e]))⟩
theorem gb_to_below {a b : World} {g : Nat} (h : a.grownBy b (some g)) (hg : g ≤ a.heap.size) : Below g a b := ⟨h.os, h.tape, h.output, h.size, fun k hk => h.block k (by omega) (fun e => by injection e with e; omega)⟩
theorem heap_set {w : World} {b i : Nat} {cs : Array Value} {T : TypeId} (hb : w.heap[b]? = some (.cells cs T (0, 0))) (v : Value) : (w.setCell ⟨b, i, none⟩ v).heap[b]? = some (.cells (cs.setIfInBounds i v) T (0, 0)) := by
  simp [World.setCell, Array.getElem?_modify, hb]
/-- The reader at block g goes through the bytes l and has come to the place k. -/
structure Rdr (w : World) (g : Nat) (A : Option Addr) (n c : Nat) (l : List UInt8) (k : Nat) : Prop where
  box : w.heap[g]? = some (.cells #[.slice A n c, .int .i64 (k : Int)] 152 (0, 0))
  row : Rd w g 1 A n (bv l)
  cap : n ≤ c ∧ c ≤ 9223372036854775807
  n : n ≤ 1000000000000
theorem Rdr.lt {w : World} {g : Nat} {A : Option Addr} {n c : Nat} {l : List UInt8} {k : Nat} (h : Rdr w g A n c l k) : g < w.heap.size := (Array.getElem?_eq_some_iff.1 h.box).1
theorem Rdr.len {w : World} {g : Nat} {A : Option Addr} {n c : Nat} {l : List UInt8} {k : Nat} (h : Rdr w g A n c l k) : l.length = n := by have := h.row.1; simp at this; omega
theorem Rdr.next {w W : World} {g : Nat} {A : Option Addr} {n c : Nat} {l : List UInt8} {k : Nat} (h : Rdr w g A n c l k) (b : Below w.heap.size w W) : Rdr W g A n c l k :=
  ⟨box_next h.box b, h.row.below (b.mono (Nat.le_of_lt h.lt)), h.cap, h.n⟩
theorem Rdr.set {w : World} {g : Nat} {A : Option Addr} {n c : Nat} {l : List UInt8} {k j : Nat} (h : Rdr w g A n c l k) {x : Int} (hx : x = (j : Int)) : Rdr (w.setCell ⟨g, 1, none⟩ (.int .i64 x)) g A n c l j := by
  subst hx
  exact ⟨by have := heap_set (i := 1) h.box (.int .i64 (j : Int)); exact this, h.row.setCell (Nat.le_refl _) _, h.cap, h.n⟩
theorem Rdr.cells {w : World} {g : Nat} {A : Option Addr} {n c : Nat} {l : List UInt8} {k : Nat} (h : Rdr w g A n c l k) : w.cell? ⟨g, 0, none⟩ = some (.slice A n c) ∧ w.cell? ⟨g, 1, none⟩ = some (.int .i64 (k : Int)) :=
  ⟨by rw [Lib.cell_of_heap h.box]; rfl, by rw [Lib.cell_of_heap h.box]; rfl⟩
theorem Rdr.free {w : World} {g : Nat} {A : Option Addr} {n c : Nat} {l : List UInt8} {k : Nat} (h : Rdr w g A n c l k) (j : Nat) : w.frozen? ⟨g, j, none⟩ = false := Lib.frozen_of_heap h.box j
theorem Rdr.other {w : World} {g : Nat} {A : Option Addr} {n c : Nat} {l : List UInt8} {k b i : Nat} (h : Rdr w g A n c l k) (hb : g < b) (v : Value) : Rdr (w.setCell ⟨b, i, none⟩ v) g A n c l k :=
  ⟨by rw [Below.heap_setCell _ _ _ _ (by simp only; omega)]; exact h.box, h.row.setCell (Nat.le_of_lt hb) _, h.cap, h.n⟩
theorem gb_new {a b : World} {row : Option Nat} (h : a.grownBy b row) {p : Nat} (hp : a.heap.size ≤ p) (i : Nat) (v : Value) : a.grownBy (b.setCell ⟨p, i, none⟩ v) row :=
  ⟨h.os, h.tape, h.output, by simpa using h.size, fun k hk hne => (Below.heap_setCell _ _ _ _ (by simp only; omega)).trans (h.block k hk hne)⟩
theorem must_yes (w : World) : Calls Try.prog 126 #[.bool true] w fun e w' => e = .returned (.tuple #[]) ∧ w = w' := by
  go_enter Try.func126, Try.ntmps126
  go_wp2_with fail
  go_end0
  exact ⟨rfl, rfl⟩
/-- What a reading method leaves. -/
def RetR (g : Nat) (A : Option Addr) (n c : Nat) (l : List UInt8) (k : Nat) (v : Value) (w : World) (e : Ending) (w' : World) : Prop := e = .returned v ∧ Rdr w' g A n c l k ∧ w.grownBy w' (some g)
theorem at_u (pre rest : List UInt8) (u : Nat) (h : u < 18446744073709551616) : getUAt (pre ++ (uintL u ++ rest)) ((pre.length : Nat) : Int) = some (u, (uintL u).length) := by
  unfold getUAt
  rw [if_pos (by simp only [List.length_append]; omega)]
  simp only [Int.toNat_natCast, List.drop_left]
  exact getU_put u rest h
set_option maxHeartbeats 1000000 in
set_option maxRecDepth 100000 in
theorem rnumber_any (g : Nat) (A : Option Addr) (n c : Nat) (pre rest : List UInt8) (u : Nat) (w : World) (h : Rdr w g A n c (pre ++ (uintL u ++ rest)) pre.length) (hu : u ≤ 1073741824) :
    Calls Try.prog 114 #[.pointer (some ⟨g, 0, none⟩)] w (RetR g A n c (pre ++ (uintL u ++ rest)) (pre.length + (uintL u).length) (.int .i64 (u : Int)) w) := by
  have hg := h.lt
  have hat := at_u pre rest u (by omega)
  have hl := h.len
  have hcap := h.cap
  have hn := h.n
  have HR := Lib.hid h
  have HA := Lib.hid hat
  have hkn : pre.length + (uintL u).length ≤ n := by rw [← hl]; simp
  clear h hat hl
  generalize hL : pre ++ (uintL u ++ rest) = L at *
  clear hL
  generalize hk : pre.length = k at *
  clear hk
  go_enter Try.func114, Try.ntmps114
  go_wp2_with fail
  refine wp_region_sched [(0, true), (1, true), (2, true), (3, true), (4, true), (5, true), (6, true), (7, true), (8, false), (9, true), (10, true), (11, true), (12, true), (13, true), (14, true), (15, true)] (by kernel_rfl) (by kernel_rfl) (fun _ _ d _ _ h => by cases d <;> exact h) ?_
  refine swith (fun W hW => (HR.out.next ((Below.refl _ _).drew.trans (hW.out.mono (Nat.le_refl _)))).cells) (fun q => ?_)
  repeat (first | (refine sreadx rfl rfl ?_; apply Exists.intro; apply And.intro; (· (intro W hW; first | (go_simp; done) | (go_simp; with_reducible rfl) | (go_simp; rw [if_neg (by omega)]; done) | (go_simp; rw [if_neg (by omega)]; with_reducible rfl))); simp only [Act.put, List.setIfInBounds_toArray, List.set_cons_zero, List.set_cons_succ]) | (refine sskip rfl rfl ?_; simp only [Act.put, List.setIfInBounds_toArray, List.set_cons_zero, List.set_cons_succ]))
  refine scall rfl rfl (fun K hK => ?_)
  go_simp
  refine (getUint_any A n c (k : Int) L _ ((HR.out.row.more (Nat.le_of_lt hg)).drew) hcap.1 (by omega) hcap.2).mono ?_; rintro e w2 ⟨rfl, rfl⟩; rw [HA.out]; simp only [resU]
  go_wp2_with fail
  refine hK.out _ _ (by exact Grow.refl _) ?_
  clear hK K
  try simp only [Act.put, List.setIfInBounds_toArray, List.set_cons_zero, List.set_cons_succ]
  repeat (first | (refine sreadx rfl rfl ?_; apply Exists.intro; apply And.intro; (· (intro W hW; first | (go_simp; done) | (go_simp; with_reducible rfl) | (go_simp; rw [if_neg (by omega)]; done) | (go_simp; rw [if_neg (by omega)]; with_reducible rfl))); simp only [Act.put, List.setIfInBounds_toArray, List.set_cons_zero, List.set_cons_succ]) | (refine sskip rfl rfl ?_; simp only [Act.put, List.setIfInBounds_toArray, List.set_cons_zero, List.set_cons_succ]))
  refine sdone ?_
  have B2 : Below w.heap.size w w.drew := (Below.refl _ _).drew
  have R2 := Lib.hid (HR.out.next B2)
  clear q
  obtain ⟨x0, x1⟩ := R2.out.cells
  have xf := R2.out.free 1
  have d1 : decide ((u : Int) ≤ 1073741824) = true := by simp; omega
  go_wp2_with fail
  refine (must_yes _).mono ?_; rintro e w3 ⟨rfl, rfl⟩
  go_wp2_with fail
  go_ret
  exact ⟨rfl, R2.out.set (by omega), gb_trans (gb_below B2 _) (gb_set _ _ _ _)⟩
theorem putV_head {x : Val} (h : right x = true) : ∃ b tl, putV x = b :: tl ∧ b.toNat ≠ 0 := by
  obtain ⟨k, n, s⟩ := x
  rcases right_cases h with ⟨e, _⟩ | ⟨e, _⟩ | ⟨e, _⟩
  all_goals (simp only at e; subst e)
  · exact ⟨1, _, putV_one h, by decide⟩
  · exact ⟨2, _, putV_two h, by decide⟩
  · exact ⟨3, _, putV_three h, by decide⟩
theorem row_at {w : World} {B : Nat} {A : Option Addr} {n : Nat} {l : List UInt8} (h : Rd w B 1 A n (bv l)) {k : Nat} (hk : k < l.length) : ∃ b off, A = some ⟨b, off, none⟩ ∧ b < B ∧ ∀ W, Below B w W → W.cell? ⟨b, off + k, none⟩ = some (.int .u8 ((l[k]).toNat : Int)) := by
  have hl : l.length = n := by have := h.1; simp at this; omega
  obtain ⟨b, off, rfl, hb, hc⟩ := h.pos (k := k) (by omega)
  refine ⟨b, off, rfl, hb, fun W bW => ?_⟩
  rw [bW.cell (p := ⟨b, off + k, none⟩) hb, hc k (by omega), bv_get l k hk]
set_option maxHeartbeats 1000000 in
set_option maxRecDepth 100000 in
theorem rvalue_zero (g : Nat) (A : Option Addr) (n c k : Nat) (L : List UInt8) (w : World) (h : Rdr w g A n c L k) (hk : k < L.length) (h0 : (L[k]).toNat = 0) :
    Calls Try.prog 148 #[.pointer (some ⟨g, 0, none⟩)] w (RetR g A n c L (k + 1) (vv ⟨0, 0, []⟩) w) := by
  have hg := h.lt
  have hl := h.len
  have hcap := h.cap
  have hn := h.n
  have HR := Lib.hid h
  obtain ⟨b, off, rfl, hb, hc⟩ := row_at h.row hk
  rw [h0] at hc
  have HC := Lib.hid hc
  have hkn : k < n := by omega
  have hne : g ≠ w.heap.size := by omega
  have d1 : decide ((k : Int) < (n : Int)) = true := by simp; omega
  have d1' : decide (k < n) = true := by simp; omega
  have e1 : (((0 : Nat) : Int) == 0) = true := rfl
  clear h hl hk h0 hc
  have hz : Hid ((w.alloc (.cells #[.int .i64 0, .int .i64 0, .string ⟨#[]⟩] 23)).heap[w.heap.size]? = some (.cells #[.int .i64 0, .int .i64 0, .string ⟨#[]⟩] 23 (0, 0))) := Lib.hid (alloc_at rfl)
  go_enter Try.func148, Try.ntmps148
  go_wp2_with fail
  refine wp_region_sched [(0, true), (1, true), (2, true), (3, true), (4, true), (5, true), (6, true), (7, true), (8, true), (9, true), (10, true), (11, true), (12, true), (13, true), (14, true), (15, true), (16, true), (17, true), (18, true), (19, true), (20, true), (21, true), (22, true)] (by kernel_rfl) (by kernel_rfl) (fun _ _ d _ _ h => by cases d <;> exact h) ?_
  refine swith (fun W hW => (HR.out.next (((Below.refl w.heap.size w).alloc (Nat.le_refl _) _).drew.trans (hW.out.mono (by simp)))).cells) (fun q => ?_)
  refine swith (fun W hW => (HC.out W ((((Below.refl g w).alloc (Nat.le_of_lt hg) _).drew).trans (hW.out.mono (by simp; omega))))) (fun q2 => ?_)
  repeat (first | (refine sreadx rfl rfl ?_; apply Exists.intro; apply And.intro; (· (intro W hW; first | (go_simp; done) | (go_simp; with_reducible rfl) | (go_simp; rw [if_neg (by omega)]; done) | (go_simp; rw [if_neg (by omega)]; with_reducible rfl))); simp only [Act.put, List.setIfInBounds_toArray, List.set_cons_zero, List.set_cons_succ]) | (refine sskip rfl rfl ?_; simp only [Act.put, List.setIfInBounds_toArray, List.set_cons_zero, List.set_cons_succ]))
  refine sdone ?_
  clear q q2
  have B1 : Below w.heap.size w (w.alloc (.cells #[.int .i64 0, .int .i64 0, .string ⟨#[]⟩] 23)).drew := ((Below.refl _ _).alloc (Nat.le_refl _) _).drew
  have R1 := Lib.hid (HR.out.next B1)
  have HB1 := Lib.hid B1
  clear B1
  obtain ⟨x0, x1⟩ := R1.out.cells
  have xf := R1.out.free 1
  go_wp2_with fail
  refine bodyPost_ret (v := vv ⟨0, 0, []⟩) (by simp [results, Try.results148, go_sem, vv]) rfl ?_
  exact ⟨rfl, (HR.out.set (by omega)).next (((Below.refl _ _).alloc (Nat.le_refl _) _).drew), gb_trans (gb_set w g 1 _) (gb_below (((Below.refl _ _).alloc (Nat.le_refl _) _).drew) _)⟩
theorem KB.of_two {bs : List Nat} {N : Nat} {Wz w W : World} (h1 : Below N Wz w) (h2 : Below N Wz W) (hb : ∀ b ∈ bs, b < N) : KB bs w W := fun b hx => (h2.block b (hb b hx)).trans (h1.block b (hb b hx)).symm
set_option maxHeartbeats 2000000 in
set_option maxRecDepth 100000 in
theorem rvalue_yes (g : Nat) (A : Option Addr) (n c k : Nat) (L : List UInt8) (x : Val) (j : Nat) (w : World) (h : Rdr w g A n c L k) (hk : k < L.length) (h0 : (L[k]).toNat ≠ 0) (hv : getV L (k : Int) = some (x, j)) :
    Calls Try.prog 148 #[.pointer (some ⟨g, 0, none⟩)] w (RetR g A n c L (k + j) (vv x) w) := by
  have hg := h.lt
  have hl := h.len
  have hcap := h.cap
  have hn := h.n
  have HR := Lib.hid h
  have HV := Lib.hid hv
  obtain ⟨b, off, rfl, hb, hc⟩ := row_at h.row hk
  have HC := Lib.hid hc
  have hkn : k < n := by omega
  have hne : g ≠ w.heap.size := by omega
  have d1 : decide ((k : Int) < (n : Int)) = true := by simp; omega
  have d1' : decide (k < n) = true := by simp; omega
  have e1 : (((L[k]).toNat : Int) == 0) = false := by simp; omega
  clear h hl h0 hc hv
  generalize L[k] = c0 at *
  clear hk
  have hz : Hid ((w.alloc (.cells #[.int .i64 0, .int .i64 0, .string ⟨#[]⟩] 23)).drew.heap[w.heap.size]? = some (.cells #[.int .i64 0, .int .i64 0, .string ⟨#[]⟩] 23 (0, 0))) := Lib.hid (alloc_at rfl)
  go_enter Try.func148, Try.ntmps148
  go_wp2_with fail
  refine wp_region_sched [(0, true), (1, true), (2, true), (3, true), (4, true), (5, true), (6, true), (7, true), (8, true), (9, true), (10, true), (11, true), (12, true), (13, true), (14, true), (15, true), (16, true), (17, true), (18, true), (19, true), (20, true), (21, true), (22, true)] (by kernel_rfl) (by kernel_rfl) (fun _ _ d _ _ h => by cases d <;> exact h) ?_
  refine swith (fun W hW => (HR.out.next (((Below.refl w.heap.size w).alloc (Nat.le_refl _) _).drew.trans (hW.out.mono (by simp)))).cells) (fun q => ?_)
  refine swith (fun W hW => (HC.out W ((((Below.refl g w).alloc (Nat.le_of_lt hg) _).drew).trans (hW.out.mono (by simp; omega))))) (fun q2 => ?_)
  repeat (first | (refine sreadx rfl rfl ?_; apply Exists.intro; apply And.intro; (· (intro W hW; first | (go_simp; done) | (go_simp; with_reducible rfl) | (go_simp; rw [if_neg (by omega)]; done) | (go_simp; rw [if_neg (by omega)]; with_reducible rfl))); simp only [Act.put, List.setIfInBounds_toArray, List.set_cons_zero, List.set_cons_succ]) | (refine sskip rfl rfl ?_; simp only [Act.put, List.setIfInBounds_toArray, List.set_cons_zero, List.set_cons_succ]))
  refine sdone ?_
  clear q q2
  have B1 : Below w.heap.size w (w.alloc (.cells #[.int .i64 0, .int .i64 0, .string ⟨#[]⟩] 23)).drew := ((Below.refl _ _).alloc (Nat.le_refl _) _).drew
  obtain ⟨w1, hw1⟩ : ∃ w1, (w.alloc (.cells #[.int .i64 0, .int .i64 0, .string ⟨#[]⟩] 23)).drew = w1 := ⟨_, rfl⟩
  rw [hw1] at hz B1 ⊢
  clear hw1
  have HB1 := Lib.hid B1
  have R1 := Lib.hid (HR.out.next B1)
  have hlt1 : w.heap.size < w1.heap.size := (Array.getElem?_eq_some_iff.1 hz.out).1
  clear B1
  go_wp2_with fail
  refine wp_region_plan [g] (.read 0 (.read 1 (.read 2 (.read 3 (.read 4 (.read 5 (.read 6 (.read 7 (.two 8 13 (.read 9 (.read 10 (.read 11 (.read 12 (.call 13 (.call 14 (.read 15 (.read 16 .done)))))))) (.call 8 (.read 9 (.read 10 (.read 11 (.read 12 (.call 14 (.read 15 (.read 16 .done))))))))))))))))) (by kernel_rfl) (by kernel_rfl) (fun _ _ d _ _ h => by cases d <;> exact h) ?_
  refine pwith (fun W hW => (show W.cell? ⟨g, 0, none⟩ = some (.slice (some ⟨b, off, none⟩) n c) ∧ W.cell? ⟨g, 1, none⟩ = some (.int .i64 (k : Int)) from ⟨by rw [Lib.cell_of_heap ((hW _ (by simp)).trans R1.out.box)]; rfl, by rw [Lib.cell_of_heap ((hW _ (by simp)).trans R1.out.box)]; rfl⟩)) (fun q => ?_)
  repeat (first | (refine sreadxP rfl rfl ?_; apply Exists.intro; apply And.intro; (· (intro W hW; first | (go_simp; done) | (go_simp; with_reducible rfl) | (go_simp; rw [if_neg (by omega)]; done) | (go_simp; rw [if_neg (by omega)]; with_reducible rfl))); simp only [Act.put, List.setIfInBounds_toArray, List.set_cons_zero, List.set_cons_succ]) | (refine pskip rfl rfl ?_; simp only [Act.put, List.setIfInBounds_toArray, List.set_cons_zero, List.set_cons_succ]))
  clear q
  refine ptwo rfl rfl rfl rfl ?_ ?_
  · intro K hK
    go_simp
    refine (get_any (some ⟨b, off, none⟩) n c (k : Int) L _ (R1.out.row.drew.more (show g ≤ w1.drew.heap.size by simp; omega)) hcap.1 (by omega) hcap.2).mono ?_; rintro e w2 ⟨rfl, b2⟩; rw [HV.out]; simp only [resV, vv]
    go_wp2_with fail
    refine hK.out _ _ (by exact KB.of_below b2 (by simp; omega)) ?_
    clear hK K
    try simp only [Act.put, List.setIfInBounds_toArray, List.set_cons_zero, List.set_cons_succ]
    have HB2 : Hid (Below w1.heap.size w1 w2) := Lib.hid ((Below.refl _ _).drew.trans (b2.mono (Nat.le_refl _)))
    have hlt2 : w1.heap.size ≤ w2.heap.size := HB2.out.size
    clear b2
    repeat (first | (refine sreadxP rfl rfl ?_; apply Exists.intro; apply And.intro; (· (intro W hW; first | (go_simp; done) | (go_simp; with_reducible rfl) | (go_simp; rw [if_neg (by omega)]; done) | (go_simp; rw [if_neg (by omega)]; with_reducible rfl))); simp only [Act.put, List.setIfInBounds_toArray, List.set_cons_zero, List.set_cons_succ]) | (refine pskip rfl rfl ?_; simp only [Act.put, List.setIfInBounds_toArray, List.set_cons_zero, List.set_cons_succ]))
    refine pcall rfl rfl (fun K hK => ?_)
    go_simp
    refine hK.out _ _ (KB.of_below ((Below.refl _ _).alloc (Nat.le_refl _) _) (by simp; omega)) ?_
    clear hK K
    try simp only [Act.put, List.setIfInBounds_toArray, List.set_cons_zero, List.set_cons_succ]
    refine pcall rfl rfl (fun K hK => ?_)
    go_simp
    refine hK.out _ _ (KB.of_two (N := w2.heap.size) (Wz := w2) ((Below.refl _ _).alloc (Nat.le_refl _) _) ((Below.refl _ _).alloc (Nat.le_refl _) _) (by simp; omega)) ?_
    clear hK K
    try simp only [Act.put, List.setIfInBounds_toArray, List.set_cons_zero, List.set_cons_succ]
    repeat (first | (refine sreadxP rfl rfl ?_; apply Exists.intro; apply And.intro; (· (intro W hW; first | (go_simp; done) | (go_simp; with_reducible rfl) | (go_simp; rw [if_neg (by omega)]; done) | (go_simp; rw [if_neg (by omega)]; with_reducible rfl))); simp only [Act.put, List.setIfInBounds_toArray, List.set_cons_zero, List.set_cons_succ]) | (refine pskip rfl rfl ?_; simp only [Act.put, List.setIfInBounds_toArray, List.set_cons_zero, List.set_cons_succ]))
    refine pdone ?_
    have X3 : Hid ((w2.alloc (.cells #[.int .i64 x.k, .int .i64 x.n, .string ⟨x.s.toArray⟩] 23)).heap[w2.heap.size]? = some (.cells #[.int .i64 x.k, .int .i64 x.n, .string ⟨x.s.toArray⟩] 23 (0, 0))) := Lib.hid (alloc_at rfl)
    have B3 : Hid (Below w1.heap.size w1 (w2.alloc (.cells #[.int .i64 x.k, .int .i64 x.n, .string ⟨x.s.toArray⟩] 23))) := Lib.hid (HB2.out.alloc hlt2 _)
    obtain ⟨b3, hb3⟩ : ∃ b3, w2.heap.size = b3 := ⟨_, rfl⟩
    obtain ⟨wF, hwF⟩ : ∃ wF, (w2.alloc (.cells #[.int .i64 x.k, .int .i64 x.n, .string ⟨x.s.toArray⟩] 23)) = wF := ⟨_, rfl⟩
    rw [hwF] at X3 B3 ⊢
    rw [hb3] at X3 hlt2 ⊢
    clear hb3 hwF HB2
    have R3 := Lib.hid (R1.out.next B3.out)
    have hz3 := Lib.hid (box_next hz.out B3.out)
    obtain ⟨x0, x1⟩ := R3.out.cells
    have xf := R3.out.free 1
    obtain ⟨y0, y1, y2⟩ := cells3 X3.out
    obtain ⟨z0, z1, z2⟩ := cells3 hz3.out
    have zf := fun j => Lib.frozen_of_heap hz3.out j
    have zf0 := zf 0
    have zf1 := zf 1
    have zf2 := zf 2
    clear zf
    go_wp2_with fail
    refine (must_yes _).mono ?_; rintro e w5 ⟨rfl, rfl⟩
    go_wp2_with fail
    refine bodyPost_ret (v := vv x) (by simp [results, Try.results148, go_sem, vv, z0, z1, z2]) rfl ?_
    exact ⟨rfl, (((R3.out.set (by omega)).other hg _).other hg _).other hg _, gb_new (gb_new (gb_new (gb_trans (gb_below (bthen HB1.out B3.out) _) (gb_set _ _ _ _)) (Nat.le_refl _) _ _) (Nat.le_refl _) _ _) (Nat.le_refl _) _ _⟩
  · intro K hK
    go_simp
    refine hK.out _ _ (KB.of_two (N := w1.heap.size) (Wz := w1) ((Below.refl _ _).drew) (((Below.refl _ _).alloc (Nat.le_refl _) _).drew) (by simp; omega)) ?_
    clear hK K
    try simp only [Act.put, List.setIfInBounds_toArray, List.set_cons_zero, List.set_cons_succ]
    obtain ⟨b3, hb3⟩ : ∃ b3, w1.heap.size = b3 := ⟨_, rfl⟩
    have X2 : Hid ((w1.alloc (.cells #[.int .i64 0, .int .i64 0, .string ⟨#[]⟩] 23)).drew.heap[b3]? = some (.cells #[.int .i64 0, .int .i64 0, .string ⟨#[]⟩] 23 (0, 0))) := Lib.hid (alloc_at hb3.symm)
    have B2 : Hid (Below w1.heap.size w1 (w1.alloc (.cells #[.int .i64 0, .int .i64 0, .string ⟨#[]⟩] 23)).drew) := Lib.hid (((Below.refl _ _).alloc (Nat.le_refl _) _).drew)
    obtain ⟨w2, hw2⟩ : ∃ w2, (w1.alloc (.cells #[.int .i64 0, .int .i64 0, .string ⟨#[]⟩] 23)).drew = w2 := ⟨_, rfl⟩
    rw [hw2] at X2 B2 ⊢
    rw [hb3] at ⊢
    have HB3 := Lib.hid hb3
    have hgb : g < b3 := by omega
    have hgb2 : w.heap.size < b3 := by omega
    clear hw2 hb3
    have R2 := Lib.hid (R1.out.next B2.out)
    have hg2 := R2.out.lt
    refine pcall rfl rfl (fun K hK => ?_)
    go_simp
    refine (get_any (some ⟨b, off, none⟩) n c (k : Int) L _ (R2.out.row.more (by omega)) hcap.1 (by omega) hcap.2).mono ?_; rintro e w3 ⟨rfl, b3'⟩; rw [HV.out]; simp only [resV, vv]
    go_wp2_with fail
    refine hK.out _ _ (by exact KB.of_below b3' (by simp; omega)) ?_
    clear hK K
    try simp only [Act.put, List.setIfInBounds_toArray, List.set_cons_zero, List.set_cons_succ]
    have X3 := Lib.hid (box_next X2.out b3')
    have HB := Lib.hid (bthen B2.out b3')
    have hbx := Lib.hid b3'
    clear b3' X2 R2 hg2
    repeat (first | (refine sreadxP rfl rfl ?_; apply Exists.intro; apply And.intro; (· (intro W hW; first | (go_simp; done) | (go_simp; with_reducible rfl) | (go_simp; rw [if_neg (by omega)]; done) | (go_simp; rw [if_neg (by omega)]; with_reducible rfl))); simp only [Act.put, List.setIfInBounds_toArray, List.set_cons_zero, List.set_cons_succ]) | (refine pskip rfl rfl ?_; simp only [Act.put, List.setIfInBounds_toArray, List.set_cons_zero, List.set_cons_succ]))
    obtain ⟨y0, y1, y2⟩ := cells3 X3.out
    have yf0 := Lib.frozen_of_heap X3.out 0
    have yf1 := Lib.frozen_of_heap X3.out 1
    have yf2 := Lib.frozen_of_heap X3.out 2
    refine pcall rfl rfl (fun K hK => ?_)
    go_simp
    refine hK.out _ _ (fun b hb => by simp at hb; subst hb; rw [Below.heap_setCell _ _ _ _ (by simp only; omega), Below.heap_setCell _ _ _ _ (by simp only; omega), Below.heap_setCell _ _ _ _ (by simp only; omega)]) ?_
    clear hK K
    try simp only [Act.put, List.setIfInBounds_toArray, List.set_cons_zero, List.set_cons_succ]
    repeat (first | (refine sreadxP rfl rfl ?_; apply Exists.intro; apply And.intro; (· (intro W hW; first | (go_simp; done) | (go_simp; with_reducible rfl) | (go_simp; rw [if_neg (by omega)]; done) | (go_simp; rw [if_neg (by omega)]; with_reducible rfl))); simp only [Act.put, List.setIfInBounds_toArray, List.set_cons_zero, List.set_cons_succ]) | (refine pskip rfl rfl ?_; simp only [Act.put, List.setIfInBounds_toArray, List.set_cons_zero, List.set_cons_succ]))
    refine pdone ?_
    have X4 : Hid ((((w3.setCell ⟨b3, 0, none⟩ (.int .i64 x.k)).setCell ⟨b3, 1, none⟩ (.int .i64 x.n)).setCell ⟨b3, 2, none⟩ (.string ⟨x.s.toArray⟩)).heap[b3]? = some (.cells #[.int .i64 x.k, .int .i64 x.n, .string ⟨x.s.toArray⟩] 23 (0, 0))) := Lib.hid (by
      have := heap_set (i := 2) (heap_set (i := 1) (heap_set (i := 0) X3.out (.int .i64 x.k)) (.int .i64 x.n)) (.string ⟨x.s.toArray⟩)
      exact this)
    have hle : w1.heap.size ≤ b3 := by have := HB3.out; omega
    have B4 : Hid (Below w1.heap.size w1 (((w3.setCell ⟨b3, 0, none⟩ (.int .i64 x.k)).setCell ⟨b3, 1, none⟩ (.int .i64 x.n)).setCell ⟨b3, 2, none⟩ (.string ⟨x.s.toArray⟩))) := Lib.hid (((HB.out.setCell hle _).setCell hle _).setCell hle _)
    obtain ⟨wF, hwF⟩ : ∃ wF, ((w3.setCell ⟨b3, 0, none⟩ (.int .i64 x.k)).setCell ⟨b3, 1, none⟩ (.int .i64 x.n)).setCell ⟨b3, 2, none⟩ (.string ⟨x.s.toArray⟩) = wF := ⟨_, rfl⟩
    rw [hwF] at X4 B4 ⊢
    clear hwF X3 HB hbx y0 y1 y2 yf0 yf1 yf2
    have X3 := X4
    have B3 := B4
    clear X4 B4
    have R3 := Lib.hid (R1.out.next B3.out)
    have hz3 := Lib.hid (box_next hz.out B3.out)
    obtain ⟨x0, x1⟩ := R3.out.cells
    have xf := R3.out.free 1
    obtain ⟨y0, y1, y2⟩ := cells3 X3.out
    obtain ⟨z0, z1, z2⟩ := cells3 hz3.out
    have zf := fun j => Lib.frozen_of_heap hz3.out j
    have zf0 := zf 0
    have zf1 := zf 1
    have zf2 := zf 2
    clear zf
    go_wp2_with fail
    refine (must_yes _).mono ?_; rintro e w5 ⟨rfl, rfl⟩
    go_wp2_with fail
    refine bodyPost_ret (v := vv x) (by simp [results, Try.results148, go_sem, vv, z0, z1, z2]) rfl ?_
    exact ⟨rfl, (((R3.out.set (by omega)).other hg _).other hg _).other hg _, gb_new (gb_new (gb_new (gb_trans (gb_below (bthen HB1.out B3.out) _) (gb_set _ _ _ _)) (Nat.le_refl _) _ _) (Nat.le_refl _) _ _) (Nat.le_refl _) _ _⟩
end Go.Proofs.Ytpkoijlbbfffiaa.R
namespace Go.Proofs.Ytpkoijlbbfffiaa.R
open Go.RowKit O V

theorem badV_cases {x : Val} (h : badV x = false) : x = ⟨0, 0, []⟩ ∨ right x = true := by
  unfold badV at h
  by_cases e : x = ⟨0, 0, []⟩
  · exact .inl e
  · right; simpa [e] using h
theorem rvalue_any (g : Nat) (A : Option Addr) (n c : Nat) (pre rest : List UInt8) (x : Val) (w : World) (h : Rdr w g A n c (pre ++ (putVal x ++ rest)) pre.length) (hb : badV x = false) (ox : VOk x) :
    Calls Try.prog 148 #[.pointer (some ⟨g, 0, none⟩)] w (RetR g A n c (pre ++ (putVal x ++ rest)) (pre.length + (putVal x).length) (vv x) w) := by
  rcases badV_cases hb with e | e
  · subst e
    have hp : putVal ⟨0, 0, []⟩ = [0] := putVal_no rfl
    rw [hp] at h ⊢
    exact rvalue_zero g A n c pre.length _ w h (by simp) (by simp)
  · have hp := putVal_yes e
    rw [hp] at h ⊢
    obtain ⟨b, tl, hbt, hb0⟩ := putV_head e
    have hlt : pre.length < (pre ++ (putV x ++ rest)).length := by rw [hbt]; simp
    refine rvalue_yes g A n c pre.length _ x _ w h hlt ?_ (getV_put pre rest x e ox.n1 ox.n2)
    have : (pre ++ (putV x ++ rest))[pre.length] = b := by simp [hbt]
    rw [this]; exact hb0
def RetV (g : Nat) (A : Option Addr) (n c : Nat) (l : List UInt8) (k : Nat) (a : List Val) (w : World) (e : Ending) (w' : World) : Prop :=
  ∃ (A' : Option Addr) (n' c' : Nat) (xs : List Value), e = .returned (.slice A' n' c') ∧ w'.ownsRow w.heap.size 23 3 (.slice A' n' c') n' xs ∧ Reps ValC a xs ∧ Rdr w' g A n c l k ∧ w.grownBy w' (some g)
theorem putVals_ge : ∀ (a : List Val), a.length ≤ (putVals a).length
  | [] => by simp [putVals]
  | x :: a => by
    have h1 := putVals_ge a
    have h2 : 0 < (putVal x).length := by
      unfold putVal
      split
      · rename_i h
        obtain ⟨b, tl, e, _⟩ := putV_head h
        rw [e]; simp
      · simp
    unfold putVals at h1 ⊢
    rw [List.flatMap_cons, List.length_append, List.length_cons]
    omega
theorem vals_split {a : List Val} {k : Nat} (h : k < a.length) (pre rest : List UInt8) : pre ++ (putVals a ++ rest) = (pre ++ putVals (a.take k)) ++ (putVal a[k] ++ (putVals (a.drop (k + 1)) ++ rest)) := by
  have e : putVals a = putVals (a.take k) ++ (putVal a[k] ++ putVals (a.drop (k + 1))) := by
    conv => lhs; rw [← List.take_append_drop k a, List.drop_eq_getElem_cons h]
    unfold putVals
    rw [List.flatMap_append, List.flatMap_cons]
  rw [e]
  simp [List.append_assoc]
theorem reps_snoc {l : List Val} {k : Nat} {xs : List Value} (h : k < l.length) (hr : Reps ValC (l.take k) xs) (ho : VOk l[k]) : Reps ValC (l.take (k + 1)) (xs ++ [.int .i64 l[k].k, .int .i64 l[k].n, .string ⟨l[k].s.toArray⟩]) := by
  rw [List.take_succ_eq_append_getElem h]
  exact hr.append (.one ⟨rfl, ho⟩)
theorem own_keep {w w' : World} {base e size n g : Nat} {v : Value} {xs : List Value} (h : w.ownsRow base e size v n xs) (hg : w.grownBy w' (some g)) (hb : g < base) : w'.ownsRow base e size v n xs :=
  h.kept hg (.inr (fun e => by have := (h.lt _ e).1; omega))
theorem Rdr.grown {w w' : World} {g : Nat} {A : Option Addr} {n c : Nat} {l : List UInt8} {k : Nat} {row : Option Nat} (h : Rdr w g A n c l k) (hg : w.grownBy w' row) (hr : ∀ j, row = some j → g < j) : Rdr w' g A n c l k :=
  ⟨by rw [hg.block g h.lt (fun e => by have := hr g e.symm; omega)]; exact h.box, h.row.keep (fun q hq => World.cell?_of_block (hg.block q.block (Nat.lt_trans hq h.lt) (fun e => by have := hr _ e.symm; omega))), h.cap, h.n⟩
theorem gb_own {a b c : World} {row r2 : Option Nat} (h : a.grownBy b row) (k : b.grownBy c r2) (hr : ∀ j, r2 = some j → a.heap.size ≤ j) : a.grownBy c row :=
  ⟨k.os.trans h.os, k.tape.trans h.tape, k.output.trans h.output, Nat.le_trans h.size k.size, fun i hi hne => (k.block i (Nat.lt_of_lt_of_le hi h.size) (fun e => by have := hr i e.symm; omega)).trans (h.block i hi hne)⟩
set_option maxHeartbeats 2000000 in
set_option maxRecDepth 100000 in
theorem rrowsV_any (g : Nat) (A : Option Addr) (n c : Nat) (pre rest : List UInt8) (a : List Val) (w : World) (h : Rdr w g A n c (pre ++ (putVals a ++ rest)) pre.length) (ha : ∀ x ∈ a, badV x = false ∧ VOk x) (h20 : a.length ≤ 20) :
    Calls Try.prog 147 #[.pointer (some ⟨g, 0, none⟩), .int .i64 (a.length : Int), .func (.func 148) #[.pointer (some ⟨g, 0, none⟩)] #[]] w
      (RetV g A n c (pre ++ (putVals a ++ rest)) (pre.length + (putVals a).length) a w) := by
  have hg := h.lt
  have hl := h.len
  have hcap := h.cap
  have hn := h.n
  have hge := putVals_ge a
  have hkn : pre.length + a.length ≤ n := by rw [← hl]; simp only [List.length_append]; omega
  have HR := Lib.hid h
  have HA := Lib.hid ha
  have hsp := fun k hk => vals_split (a := a) (k := k) hk pre rest
  have HSP := Lib.hid hsp
  clear h hl ha hge hsp
  obtain ⟨m, hm⟩ : ∃ m, a.length = m := ⟨_, rfl⟩
  rw [hm] at h20 hkn ⊢
  have HM := Lib.hid hm
  clear hm
  generalize hL : pre ++ (putVals a ++ rest) = L at *
  clear hL
  obtain ⟨p, hp⟩ : ∃ p, pre.length = p := ⟨_, rfl⟩
  rw [hp] at HR hkn ⊢
  have HP := Lib.hid hp
  clear hp
  have d0 : (m : Int) ≤ (n : Int) - (p : Int) := by omega
  have d1 : decide ((m : Int) ≤ (n : Int) - (p : Int)) = true := by simp; omega
  have hwr : IntKind.i64.wrap ((n : Int) - (p : Int)) = (n : Int) - (p : Int) := IntWalk.i64_in _ (by omega)
  go_enter Try.func147, Try.ntmps147
  go_wp2_with fail
  refine wp_region_sched [(0, true), (1, true), (2, true), (3, true), (4, true), (5, true), (6, true), (7, true), (8, true), (9, true), (10, true), (11, true), (12, false)] (by kernel_rfl) (by kernel_rfl) (fun _ _ d _ _ h => by cases d <;> exact h) ?_
  refine swith (fun W hW => (HR.out.next ((Below.refl _ _).drew.trans (hW.out.mono (Nat.le_refl _)))).cells) (fun q => ?_)
  repeat (first | (refine sreadx rfl rfl ?_; apply Exists.intro; apply And.intro; (· (intro W hW; first | (go_simp; done) | (go_simp; with_reducible rfl) | (go_simp; rw [if_neg (by omega)]; done) | (go_simp; rw [if_neg (by omega)]; with_reducible rfl))); simp only [Act.put, List.setIfInBounds_toArray, List.set_cons_zero, List.set_cons_succ]) | (refine sskip rfl rfl ?_; simp only [Act.put, List.setIfInBounds_toArray, List.set_cons_zero, List.set_cons_succ]))
  refine scall rfl rfl (fun K hK => ?_)
  go_simp
  refine (must_yes _).mono ?_; rintro e w2 ⟨rfl, rfl⟩
  go_wp2_with fail
  refine hK.out _ _ (by exact Grow.refl _) ?_
  clear hK K
  try simp only [Act.put, List.setIfInBounds_toArray, List.set_cons_zero, List.set_cons_succ]
  repeat (first | (refine sreadx rfl rfl ?_; apply Exists.intro; apply And.intro; (· (intro W hW; first | (go_simp; done) | (go_simp; with_reducible rfl) | (go_simp; rw [if_neg (by omega)]; done) | (go_simp; rw [if_neg (by omega)]; with_reducible rfl))); simp only [Act.put, List.setIfInBounds_toArray, List.set_cons_zero, List.set_cons_succ]) | (refine sskip rfl rfl ?_; simp only [Act.put, List.setIfInBounds_toArray, List.set_cons_zero, List.set_cons_succ]))
  refine sdone ?_
  clear q hwr
  have R1 := Lib.hid (HR.out.next (Below.refl _ _).drew)
  have G1 : Hid (w.grownBy w.drew (some g)) := Lib.hid (gb_below (Below.refl _ _).drew _)
  go_wp2_with fail
  go_loopw [6, 21] (fun v i wr => ∃ (k : Nat) (A1 : Option Addr) (n1 c1 : Nat) (xs : List Value), k ≤ m ∧ i = .int .i64 k ∧ v = .slice A1 n1 c1 ∧ wr.ownsRow w.heap.size 23 3 (.slice A1 n1 c1) n1 xs ∧ Hid (Reps ValC (a.take k) xs) ∧ Rdr wr g A n c L (p + (putVals (a.take k)).length) ∧ w.grownBy wr (some g)) (fun _ i _ => m - (intOf i).toNat)
  case atStart => exact ⟨0, none, 0, 0, [], by omega, rfl, rfl, World.ownsRow_nil _ _ _ _, Lib.hid (by simp [Reps]), by simpa [putVals] using R1.out, G1.out⟩
  case round =>
    obtain ⟨k, A1, n1, c1, xs, hk, rfl, rfl, ho, hrp, hR, hG⟩ := hrel
    clear R1 G1
    have hn1 : n1 = k := by
      have e1 := ho.1
      have e2 := hrp.out.length ValC.size
      have e3 := HM.out
      simp at e2
      omega
    subst hn1
    have HO := Lib.hid ho
    have HG := Lib.hid hG
    have hbs := hG.size
    by_cases hlt : n1 < m
    · have hlt' : n1 < a.length := by rw [HM.out]; exact hlt
      have e1 := HSP.out n1 hlt'
      have ex := HA.out a[n1] (List.getElem_mem hlt')
      have HX := Lib.hid ex
      have hsn := Lib.hid (reps_snoc hlt' hrp.out ex.2)
      have hst := Lib.hid (putVals_step hlt')
      have hR' : Rdr wr g A n c ((pre ++ putVals (a.take n1)) ++ (putVal a[n1] ++ (putVals (a.drop (n1 + 1)) ++ rest))) (pre ++ putVals (a.take n1)).length := by
        rw [← e1, List.length_append, HP.out]; exact hR
      have hq := rvalue_any g A n c _ _ a[n1] _ hR' ex.1 ex.2
      rw [← e1, List.length_append, HP.out] at hq
      have HQ := Lib.hid hq
      clear e1 ex hR' hq ho hG hR
      generalize a[n1] = x at *
      go_wp2_with fail
      refine HQ.out.mono ?_; rintro e w2 ⟨rfl, r2, g2⟩
      have HO2 := Lib.hid (own_keep HO.out g2 hg)
      have HG2 := Lib.hid (gb_trans HG.out g2)
      have R2 := Lib.hid r2
      have hbs2 := Nat.le_trans hbs g2.size
      clear r2 g2 HQ HO HG
      simp only [vv]
      go_wp2_with (at_builtin; refine wpList_app rfl (.tmp 23) (.tmp 26) valE rfl w.heap.size xs rfl (HO2.out.alloc _) rfl [.int .i64 x.k, .int .i64 x.n, .string ⟨x.s.toArray⟩] (Rd.made _ [.int .i64 x.k, .int .i64 x.n, .string ⟨x.s.toArray⟩] rfl rfl) (by simp [Value.oneCell']) (by unfold maxLen; omega) (by omega) (by simp; omega) ?_; intro A3 c3 w3 o3 g3 _)
      have hown := fun j hj => ((HO2.out.alloc (.cells #[.int .i64 x.k, .int .i64 x.n, .string ⟨x.s.toArray⟩] 23)).lt j hj).1
      have R3 := (R2.out.next ((Below.refl _ _).alloc (Nat.le_refl _) _)).grown g3 (fun j hj => Nat.lt_of_lt_of_le hg (hown j hj))
      have G3 := gb_own (gb_trans HG2.out (gb_below ((Below.refl _ _).alloc (Nat.le_refl _) _) _)) g3 hown
      go_roundw
      case rel => exact ⟨n1 + 1, A3, n1 + 1, c3, _, by omega, by go_num, rfl, o3, hsn, by rw [hst.out, List.length_append, ← Nat.add_assoc]; exact R3, G3⟩
      case measure => simp [intOf]; omega
    · obtain rfl : n1 = m := by omega
      go_wp2_with fail
      go_ret
      have e1 : a.take n1 = a := by rw [← HM.out, List.take_length]
      rw [e1] at hrp hR
      exact ⟨A1, n1, c1, xs, rfl, ho, hrp.out, hR, hG⟩
theorem rvalues_any (g : Nat) (A : Option Addr) (n c : Nat) (pre rest : List UInt8) (a : List Val) (w : World) (h : Rdr w g A n c (pre ++ (rowL a ++ rest)) pre.length) (ha : ∀ x ∈ a, badV x = false ∧ VOk x) (h20 : a.length ≤ 20) :
    Calls Try.prog 115 #[.pointer (some ⟨g, 0, none⟩)] w (RetV g A n c (pre ++ (rowL a ++ rest)) (pre.length + (rowL a).length) a w) := by
  have hg := h.lt
  have e1 : pre ++ (rowL a ++ rest) = pre ++ (uintL a.length ++ (putVals a ++ rest)) := by simp [rowL, List.append_assoc]
  have e2 : pre ++ (rowL a ++ rest) = (pre ++ uintL a.length) ++ (putVals a ++ rest) := by simp [rowL, List.append_assoc]
  have e3 : pre.length + (rowL a).length = (pre ++ uintL a.length).length + (putVals a).length := by simp [rowL]; omega
  rw [e1] at h
  have h1 := rnumber_any g A n c pre (putVals a ++ rest) a.length w h (by omega)
  have H1 := Lib.hid h1
  have H2 : Hid (∀ W, Rdr W g A n c (pre ++ (uintL a.length ++ (putVals a ++ rest))) (pre.length + (uintL a.length).length) → Calls Try.prog 147 #[.pointer (some ⟨g, 0, none⟩), .int .i64 (a.length : Int), .func (.func 148) #[.pointer (some ⟨g, 0, none⟩)] #[]] W
      (RetV g A n c (pre ++ (rowL a ++ rest)) (pre.length + (rowL a).length) a W)) := Lib.hid (fun W hW => by
    rw [e3, e2]
    rw [← e1, e2, show pre.length + (uintL a.length).length = (pre ++ uintL a.length).length by simp] at hW
    exact rrowsV_any g A n c _ rest a W hW ha h20)
  clear h h1 e1 e2 e3
  go_enter Try.func115, Try.ntmps115
  go_wp2_with fail
  refine H1.out.mono ?_; rintro e w1 ⟨rfl, r1, g1⟩
  go_wp2_with fail
  refine (H2.out _ r1).mono ?_; rintro e w2 ⟨A2, n2, c2, xs, rfl, o2, hr2, r2, g2⟩
  go_wp2_with fail
  go_ret
  exact ⟨A2, n2, c2, xs, rfl, own_more o2 g1.size, hr2, r2, gb_trans g1 g2⟩
end Go.Proofs.Ytpkoijlbbfffiaa.R
namespace Go.Proofs.Ytpkoijlbbfffiaa.R
open Go.RowKit O V

theorem at_i (pre rest : List UInt8) (x : Int) (h1 : -9223372036854775808 ≤ x) (h2 : x ≤ 9223372036854775807) : getUAt (pre ++ (uintL (zig x) ++ rest)) ((pre.length : Nat) : Int) = some (zig x, (uintL (zig x)).length) := at_u pre rest (zig x) (zig_lt _ h1 h2)
/-- The row s lies anew (from the block B on) and holds a. -/
def OwnV (w : World) (B : Nat) (s : Sl) (a : List Val) : Prop := ∃ xs, w.ownsRow B 23 3 (.slice s.A s.n s.c) s.n xs ∧ Reps ValC a xs
theorem OwnV.row {w : World} {B : Nat} {s : Sl} {a : List Val} (h : OwnV w B s a) : VRow w s.A s.n s.c a := by
  obtain ⟨xs, h1, h2⟩ := h
  exact VRow.own h1 h2
theorem OwnV.grown {w w' : World} {B : Nat} {s : Sl} {a : List Val} {g : Nat} (h : OwnV w B s a) (hg : w.grownBy w' (some g)) (hb : g < B) : OwnV w' B s a := by
  obtain ⟨xs, h1, h2⟩ := h
  exact ⟨xs, own_keep h1 hg hb, h2⟩
theorem OwnV.below {w w' : World} {B : Nat} {s : Sl} {a : List Val} (h : OwnV w B s a) (hb : Below w.heap.size w w') : OwnV w' B s a := by
  obtain ⟨xs, h1, h2⟩ := h
  exact ⟨xs, own_below h1 hb, h2⟩
theorem OwnV.more {w : World} {B B' : Nat} {s : Sl} {a : List Val} (h : OwnV w B s a) (hb : B' ≤ B) : OwnV w B' s a := by
  obtain ⟨xs, h1, h2⟩ := h
  exact ⟨xs, own_more h1 hb, h2⟩
theorem OwnV.set {w : World} {B b i : Nat} {s : Sl} {a : List Val} (h : OwnV w B s a) (hb : b < B) (v : Value) : OwnV (w.setCell ⟨b, i, none⟩ v) B s a := by
  obtain ⟨xs, h1, h2⟩ := h
  exact ⟨xs, own_set h1 v (fun e => by have := (h1.lt _ e).1; omega), h2⟩
theorem OwnV.nil (w : World) (B : Nat) : OwnV w B ⟨none, 0, 0⟩ [] := ⟨[], World.ownsRow_nil _ _ _ _, rfl⟩
def RetC (g : Nat) (A : Option Addr) (n c : Nat) (l : List UInt8) (k : Nat) (x : Chg) (w : World) (e : Ending) (w' : World) : Prop :=
  ∃ s : Sl, e = .returned (cgv x s) ∧ OwnV w' w.heap.size s x.row ∧ Rdr w' g A n c l k ∧ w.grownBy w' (some g)
/-- What is known of a change that is read back. -/
structure COk2 (x : Chg) : Prop where
  t0 : 0 ≤ x.table
  t1 : x.table ≤ 1073741824
  k1 : -9223372036854775808 ≤ x.key
  k2 : x.key ≤ 9223372036854775807
  r : ∀ v ∈ x.row, badV v = false ∧ VOk v
  n : x.row.length ≤ 20
  e : x.gone = true → x.row = []
theorem box_gb {w w' : World} {h g : Nat} {o : Obj} (hb : w.heap[h]? = some o) (hg : w.grownBy w' (some g)) (hne : g < h) : w'.heap[h]? = some o := by
  rw [hg.block h (Array.getElem?_eq_some_iff.1 hb).1 (fun e => by injection e with e; omega)]
  exact hb
theorem box_set {w : World} {h b i : Nat} {o : Obj} (hb : w.heap[h]? = some o) (hne : b ≠ h) (v : Value) : (w.setCell ⟨b, i, none⟩ v).heap[h]? = some o := by
  rw [Below.heap_setCell _ _ _ _ (by simp only; omega)]
  exact hb
set_option maxHeartbeats 2000000 in
set_option maxRecDepth 100000 in
theorem rchange_any (g : Nat) (A : Option Addr) (n c : Nat) (pre rest : List UInt8) (x : Chg) (w : World) (h : Rdr w g A n c (pre ++ (chgL x ++ rest)) pre.length) (ok : COk2 x) :
    Calls Try.prog 117 #[.pointer (some ⟨g, 0, none⟩)] w (RetC g A n c (pre ++ (chgL x ++ rest)) (pre.length + (chgL x).length) x w) := by
  have hg := h.lt
  have hcap := h.cap
  have hn := h.n
  have HR := Lib.hid h
  have OK := Lib.hid ok
  have hx : chgL x = uintL x.table.toNat ++ (uintL (zig x.key) ++ (if x.gone then [0] else uintL (x.row.length + 1) ++ putVals x.row)) := rfl
  have h1 : pre ++ (chgL x ++ rest) = pre ++ (uintL x.table.toNat ++ (uintL (zig x.key) ++ ((if x.gone then [0] else uintL (x.row.length + 1) ++ putVals x.row) ++ rest))) := by rw [hx]; simp only [List.append_assoc]
  have h2 : pre ++ (chgL x ++ rest) = (pre ++ uintL x.table.toNat) ++ (uintL (zig x.key) ++ ((if x.gone then [0] else uintL (x.row.length + 1) ++ putVals x.row) ++ rest)) := by rw [hx]; simp only [List.append_assoc]
  have q1 : Hid (∀ W, Rdr W g A n c (pre ++ (chgL x ++ rest)) pre.length → Calls Try.prog 114 #[.pointer (some ⟨g, 0, none⟩)] W (RetR g A n c (pre ++ (chgL x ++ rest)) (pre.length + (uintL x.table.toNat).length) (.int .i64 x.table) W)) := Lib.hid (fun W hW => by
    rw [h1] at hW ⊢
    have := rnumber_any g A n c pre _ x.table.toNat W hW (by have := ok.t1; omega)
    rwa [Int.toNat_of_nonneg ok.t0] at this)
  have q2 : Hid (getUAt (pre ++ (chgL x ++ rest)) (((pre.length + (uintL x.table.toNat).length : Nat)) : Int) = some (zig x.key, (uintL (zig x.key)).length)) := Lib.hid (by
    rw [h2, ← List.length_append]
    exact at_i _ _ _ ok.k1 ok.k2)
  have hl := h.len
  have hkn : pre.length + (uintL x.table.toNat).length + (uintL (zig x.key)).length ≤ n := by rw [← hl, h2]; simp only [List.length_append]; omega
  have hz : g ≠ w.heap.size := by omega
  have q3 : Hid (∀ u : Nat, ∀ r2 : List UInt8, (if x.gone then [0] else uintL (x.row.length + 1) ++ putVals x.row) ++ rest = uintL u ++ r2 → u ≤ 1073741824 → ∀ W, Rdr W g A n c (pre ++ (chgL x ++ rest)) (pre.length + (uintL x.table.toNat).length + (uintL (zig x.key)).length) →
      Calls Try.prog 114 #[.pointer (some ⟨g, 0, none⟩)] W (RetR g A n c (pre ++ (chgL x ++ rest)) (pre.length + (uintL x.table.toNat).length + (uintL (zig x.key)).length + (uintL u).length) (.int .i64 (u : Int)) W)) := Lib.hid (fun u r2 he hu W hW => by
    have e : pre ++ (chgL x ++ rest) = ((pre ++ uintL x.table.toNat) ++ uintL (zig x.key)) ++ (uintL u ++ r2) := by rw [h2, he]; simp only [List.append_assoc]
    have e2 : pre.length + (uintL x.table.toNat).length + (uintL (zig x.key)).length = ((pre ++ uintL x.table.toNat) ++ uintL (zig x.key)).length := by simp only [List.length_append]
    rw [e, e2] at hW ⊢
    exact rnumber_any g A n c _ r2 u W hW hu)
  have q4 : Hid (x.gone = false → ∀ W, Rdr W g A n c (pre ++ (chgL x ++ rest)) (pre.length + (uintL x.table.toNat).length + (uintL (zig x.key)).length + (uintL (x.row.length + 1)).length) →
      Calls Try.prog 147 #[.pointer (some ⟨g, 0, none⟩), .int .i64 (x.row.length : Int), .func (.func 148) #[.pointer (some ⟨g, 0, none⟩)] #[]] W
      (RetV g A n c (pre ++ (chgL x ++ rest)) (pre.length + (chgL x).length) x.row W)) := Lib.hid (fun hgn W hW => by
    have e : pre ++ (chgL x ++ rest) = (((pre ++ uintL x.table.toNat) ++ uintL (zig x.key)) ++ uintL (x.row.length + 1)) ++ (putVals x.row ++ rest) := by rw [h2, hgn]; simp [List.append_assoc]
    have e2 : pre.length + (uintL x.table.toNat).length + (uintL (zig x.key)).length + (uintL (x.row.length + 1)).length = (((pre ++ uintL x.table.toNat) ++ uintL (zig x.key)) ++ uintL (x.row.length + 1)).length := by simp only [List.length_append]
    have e3 : pre.length + (chgL x).length = (((pre ++ uintL x.table.toNat) ++ uintL (zig x.key)) ++ uintL (x.row.length + 1)).length + (putVals x.row).length := by rw [hx, hgn]; simp; omega
    rw [e3, e]
    rw [e, e2] at hW
    exact rrowsV_any g A n c _ rest x.row W hW ok.r ok.n)
  have hkn2 : pre.length + (uintL x.table.toNat).length ≤ n := by omega
  have hln : x.row.length ≤ 20 := ok.n
  have hend : Hid (x.gone = true → pre.length + (chgL x).length = pre.length + (uintL x.table.toNat).length + (uintL (zig x.key)).length + (uintL 0).length) := Lib.hid (fun hgn => by
    rw [hx, hgn, show uintL 0 = [0] from uintL_lt (by omega)]; simp; omega)
  have hrow : Hid (x.gone = true → x.row = []) := Lib.hid ok.e
  obtain ⟨tb, ky, gn, r⟩ := x
  dsimp only at q1 q2 q3 q4 hend hrow hkn hkn2 hln
  clear h ok h1 h2 hl hx OK
  generalize pre ++ (chgL ⟨tb, ky, gn, r⟩ ++ rest) = L at *
  generalize pre.length + (chgL ⟨tb, ky, gn, r⟩).length = kE at *
  generalize hp1 : pre.length + (uintL tb.toNat).length = p1 at *
  generalize (uintL (zig ky)).length = lb at *
  have X0 : Hid ((w.alloc (.cells #[.int .i64 0, .int .i64 0, .bool false, .slice none 0 0] 42)).heap[w.heap.size]? = some (.cells #[.int .i64 0, .int .i64 0, .bool false, .slice none 0 0] 42 (0, 0))) := Lib.hid (alloc_at rfl)
  have R0 := Lib.hid (HR.out.next ((Below.refl _ _).alloc (Nat.le_refl _) (.cells #[.int .i64 0, .int .i64 0, .bool false, .slice none 0 0] 42)))
  have G0 : Hid (w.grownBy (w.alloc (.cells #[.int .i64 0, .int .i64 0, .bool false, .slice none 0 0] 42)) (some g)) := Lib.hid (gb_below ((Below.refl _ _).alloc (Nat.le_refl _) _) _)
  clear hp1
  have hzz := zag_zig ky
  have HZ := Lib.hid hzz
  clear hzz
  go_enter Try.func117, Try.ntmps117
  go_wp2_with fail
  refine (q1.out _ R0.out).mono ?_; rintro e w1 ⟨rfl, r1, g1⟩
  have X1 := Lib.hid (box_gb X0.out g1 hg)
  have R1 := Lib.hid r1
  have G1 := Lib.hid (gb_trans G0.out g1)
  clear r1 g1 X0 R0 G0
  obtain ⟨⟨y0, y1⟩, y2, y3⟩ := cells4 X1.out
  have yf0 := Lib.frozen_of_heap X1.out 0
  have yf1 := Lib.frozen_of_heap X1.out 1
  have yf2 := Lib.frozen_of_heap X1.out 2
  have yf3 := Lib.frozen_of_heap X1.out 3
  go_wp2_with fail
  have X2 : Hid ((w1.setCell ⟨w.heap.size, 0, none⟩ (.int .i64 tb)).heap[w.heap.size]? = some (.cells #[.int .i64 tb, .int .i64 0, .bool false, .slice none 0 0] 42 (0, 0))) := Lib.hid (by have := heap_set (i := 0) X1.out (.int .i64 tb); exact this)
  have R2 := Lib.hid (R1.out.other (i := 0) hg (.int .i64 tb))
  have G2 := Lib.hid (gb_new G1.out (Nat.le_refl _) 0 (.int .i64 tb))
  obtain ⟨w2, hw2⟩ : ∃ w2, w1.setCell ⟨w.heap.size, 0, none⟩ (.int .i64 tb) = w2 := ⟨_, rfl⟩
  rw [hw2] at X2 R2 G2 ⊢
  clear hw2 X1 R1 G1 y0 y1 y2 y3 yf0 yf1 yf2 yf3
  refine wp_region_sched [(0, true), (1, true), (2, true), (3, true), (4, true), (5, true), (6, true), (7, true), (8, false), (9, true), (10, true), (11, true), (12, true), (13, true), (14, true), (15, true)] (by kernel_rfl) (by kernel_rfl) (fun _ _ d _ _ h => by cases d <;> exact h) ?_
  refine swith (fun W hW => (R2.out.next ((Below.refl _ _).drew.trans (hW.out.mono (Nat.le_refl _)))).cells) (fun q => ?_)
  repeat (first | (refine sreadx rfl rfl ?_; apply Exists.intro; apply And.intro; (· (intro W hW; first | (go_simp; done) | (go_simp; with_reducible rfl) | (go_simp; rw [if_neg (by omega)]; done) | (go_simp; rw [if_neg (by omega)]; with_reducible rfl))); simp only [Act.put, List.setIfInBounds_toArray, List.set_cons_zero, List.set_cons_succ]) | (refine sskip rfl rfl ?_; simp only [Act.put, List.setIfInBounds_toArray, List.set_cons_zero, List.set_cons_succ]))
  refine scall rfl rfl (fun K hK => ?_)
  go_simp
  refine (getInt_any A n c (p1 : Int) L _ (R2.out.row.drew.more (show g ≤ w2.drew.heap.size by have := R2.out.lt; simp; omega)) hcap.1 (by omega) hcap.2).mono ?_; rintro e w3 ⟨rfl, rfl⟩; rw [q2.out]; simp only [resI]; rw [HZ.out]
  go_wp2_with fail
  refine hK.out _ _ (by exact Grow.refl _) ?_
  clear hK K
  try simp only [Act.put, List.setIfInBounds_toArray, List.set_cons_zero, List.set_cons_succ]
  repeat (first | (refine sreadx rfl rfl ?_; apply Exists.intro; apply And.intro; (· (intro W hW; first | (go_simp; done) | (go_simp; with_reducible rfl) | (go_simp; rw [if_neg (by omega)]; done) | (go_simp; rw [if_neg (by omega)]; with_reducible rfl))); simp only [Act.put, List.setIfInBounds_toArray, List.set_cons_zero, List.set_cons_succ]) | (refine sskip rfl rfl ?_; simp only [Act.put, List.setIfInBounds_toArray, List.set_cons_zero, List.set_cons_succ]))
  refine sdone ?_
  have X3 := Lib.hid (box_next X2.out (Below.refl _ _).drew)
  have R3 := Lib.hid (R2.out.next (Below.refl _ _).drew)
  have G3 : Hid (w.grownBy w2.drew (some g)) := Lib.hid (gb_trans G2.out (gb_below (Below.refl _ _).drew _))
  obtain ⟨w3, hw3⟩ : ∃ w3, w2.drew = w3 := ⟨_, rfl⟩
  rw [hw3] at X3 R3 G3 ⊢
  clear hw3 X2 R2 G2 q q2
  obtain ⟨⟨y0, y1⟩, y2, y3⟩ := cells4 X3.out
  have yf0 := Lib.frozen_of_heap X3.out 0
  have yf1 := Lib.frozen_of_heap X3.out 1
  have yf2 := Lib.frozen_of_heap X3.out 2
  have yf3 := Lib.frozen_of_heap X3.out 3
  obtain ⟨x0, x1⟩ := R3.out.cells
  have xf := R3.out.free 1
  go_wp2_with fail
  refine (must_yes _).mono ?_; rintro e w4 ⟨rfl, rfl⟩
  go_wp2_with fail
  have X5 : Hid (((w3.setCell ⟨w.heap.size, 1, none⟩ (.int .i64 ky)).setCell ⟨g, 1, none⟩ (.int .i64 ((p1 : Int) + (lb : Int)))).heap[w.heap.size]? = some (.cells #[.int .i64 tb, .int .i64 ky, .bool false, .slice none 0 0] 42 (0, 0))) := Lib.hid (box_set (by have := heap_set (i := 1) X3.out (.int .i64 ky); exact this) hz _)
  have R5 := Lib.hid ((R3.out.other (i := 1) hg (.int .i64 ky)).set (show (p1 : Int) + (lb : Int) = ((p1 + lb : Nat) : Int) by omega))
  have G5 := Lib.hid (gb_trans (gb_new G3.out (Nat.le_refl _) 1 (.int .i64 ky)) (gb_set _ g 1 (.int .i64 ((p1 : Int) + (lb : Int)))))
  obtain ⟨w5, hw5⟩ : ∃ w5, (w3.setCell ⟨w.heap.size, 1, none⟩ (.int .i64 ky)).setCell ⟨g, 1, none⟩ (.int .i64 ((p1 : Int) + (lb : Int))) = w5 := ⟨_, rfl⟩
  rw [hw5] at X5 R5 G5 ⊢
  clear hw5 X3 R3 G3 y0 y1 y2 y3 yf0 yf1 yf2 yf3 x0 x1 xf
  cases gn
  · refine (q3.out (r.length + 1) (putVals r ++ rest) (by simp [List.append_assoc]) (by omega) _ R5.out).mono ?_; rintro e w6 ⟨rfl, r6, g6⟩
    have X6 := Lib.hid (box_gb X5.out g6 hg)
    have R6 := Lib.hid r6
    have G6 := Lib.hid (gb_trans G5.out g6)
    clear r6 g6 X5 R5 G5
    have e0 : ((r.length : Int) + 1 == 0) = false := by simp; omega
    obtain ⟨⟨y0, y1⟩, y2, y3⟩ := cells4 X6.out
    have yf0 := Lib.frozen_of_heap X6.out 0
    have yf1 := Lib.frozen_of_heap X6.out 1
    have yf2 := Lib.frozen_of_heap X6.out 2
    have yf3 := Lib.frozen_of_heap X6.out 3
    go_wp2_with fail
    have X7 : Hid ((w6.setCell ⟨w.heap.size, 2, none⟩ (.bool false)).heap[w.heap.size]? = some (.cells #[.int .i64 tb, .int .i64 ky, .bool false, .slice none 0 0] 42 (0, 0))) := Lib.hid (by have := heap_set (i := 2) X6.out (.bool false); exact this)
    have R7 := Lib.hid (R6.out.other (i := 2) hg (.bool false))
    have G7 := Lib.hid (gb_new G6.out (Nat.le_refl _) 2 (.bool false))
    obtain ⟨w7, hw7⟩ : ∃ w7, w6.setCell ⟨w.heap.size, 2, none⟩ (.bool false) = w7 := ⟨_, rfl⟩
    rw [hw7] at X7 R7 G7 ⊢
    clear hw7 X6 R6 G6 y0 y1 y2 y3 yf0 yf1 yf2 yf3
    have hh7 : w.heap.size < w7.heap.size := (Array.getElem?_eq_some_iff.1 X7.out).1
    refine (q4.out (by first | exact trivial | rfl) _ R7.out).mono ?_; rintro e w8 ⟨A8, n8, c8, xs8, rfl, o8, p8, r8, g8⟩
    have O8 : Hid (OwnV w8 w7.heap.size ⟨A8, n8, c8⟩ r) := Lib.hid ⟨xs8, o8, p8⟩
    have X8 := Lib.hid (box_gb X7.out g8 hg)
    have R8 := Lib.hid r8
    have G8 := Lib.hid (gb_trans G7.out g8)
    clear o8 p8 r8 g8 X7 R7 G7
    obtain ⟨⟨y0, y1⟩, y2, y3⟩ := cells4 X8.out
    have yf0 := Lib.frozen_of_heap X8.out 0
    have yf1 := Lib.frozen_of_heap X8.out 1
    have yf2 := Lib.frozen_of_heap X8.out 2
    have yf3 := Lib.frozen_of_heap X8.out 3
    go_wp2_with fail
    refine bodyPost_ret (v := cgv ⟨tb, ky, false, r⟩ ⟨A8, n8, c8⟩) (by simp [results, Try.results117, go_sem, cgv, y0, y1, y2, y3]) rfl ?_
    refine ⟨⟨A8, n8, c8⟩, rfl, ?_, ?_, ?_⟩
    · exact ((((((O8.out.set hh7 _).set hh7 _).set hh7 _).set hh7 _).set hh7 _)).more (Nat.le_of_lt hh7)
    · exact ((((R8.out.other hg _).other hg _).other hg _).other hg _).other hg _
    · exact gb_new (gb_new (gb_new (gb_new (gb_new G8.out (Nat.le_refl _) _ _) (Nat.le_refl _) _ _) (Nat.le_refl _) _ _) (Nat.le_refl _) _ _) (Nat.le_refl _) _ _
  · have hr0 : r = [] := hrow.out rfl
    have HE := Lib.hid (hend.out rfl)
    subst hr0
    refine (q3.out 0 rest (by rw [show uintL 0 = [0] from uintL_lt (by omega)]; rfl) (by omega) _ R5.out).mono ?_; rintro e w6 ⟨rfl, r6, g6⟩
    have X6 := Lib.hid (box_gb X5.out g6 hg)
    have R6 := Lib.hid r6
    have G6 := Lib.hid (gb_trans G5.out g6)
    clear r6 g6 X5 R5 G5
    have e0 : (((0 : Nat) : Int) == 0) = true := rfl
    obtain ⟨⟨y0, y1⟩, y2, y3⟩ := cells4 X6.out
    have yf0 := Lib.frozen_of_heap X6.out 0
    have yf1 := Lib.frozen_of_heap X6.out 1
    have yf2 := Lib.frozen_of_heap X6.out 2
    have yf3 := Lib.frozen_of_heap X6.out 3
    go_wp2_with fail
    refine bodyPost_ret (v := cgv ⟨tb, ky, true, []⟩ ⟨none, 0, 0⟩) (by simp [results, Try.results117, go_sem, cgv, y0, y1, y2, y3]) rfl ?_
    refine ⟨⟨none, 0, 0⟩, rfl, OwnV.nil _ _, ?_, ?_⟩
    · rw [HE.out]; exact ((((R6.out.other hg _).other hg _).other hg _).other hg _).other hg _
    · exact gb_new (gb_new (gb_new (gb_new (gb_new G6.out (Nat.le_refl _) _ _) (Nat.le_refl _) _ _) (Nat.le_refl _) _ _) (Nat.le_refl _) _ _) (Nat.le_refl _) _ _
end Go.Proofs.Ytpkoijlbbfffiaa.R
