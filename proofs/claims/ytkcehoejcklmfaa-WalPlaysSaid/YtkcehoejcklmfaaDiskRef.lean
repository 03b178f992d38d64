/- The reference's disk as a value, and the contracts of its functions. -/
import Derived.Test.YtkcehoejcklmfaaDiskLives
import Derived.Test.YtkcehoejcklmfaaReps
import Derived.Test.YtkcehoejcklmfaaSched
import Derived.BigQuiet
import Derived.Outline
import Derived.BigRegion
import Derived.IntWalk
namespace Go.Proofs.Ytkcehoejcklmfaa.K
open Go.RowKit D O

theorem ba_take (a : List UInt8) (k : Nat) : (ByteArray.mk a.toArray).extract 0 k = ByteArray.mk (a.take k).toArray := by
  apply ByteArray.ext
  simp
abbrev str (l : List UInt8) : Value := .string ⟨l.toArray⟩
theorem str_one (l : List UInt8) : (str l).oneCell' = true := rfl
/-- A row of two texts that lies apart from the blocks g and r. -/
def Two (w : World) (g : Nat) (r : Option Nat) (A : Option Addr) (a b : List UInt8) : Prop := Rd w w.heap.size 1 A 2 [str a, str b] ∧ ∀ k, blkOf A = some k → (k ≠ g ∧ r ≠ some k) ∧ ∃ cs fr, w.heap[k]? = some (.cells cs 9 fr)
/-- A disk of the reference. -/
def RefAt (w : World) (g : Nat) (r : Option Nat) (v : Value) (s : St) : Prop :=
  ∃ A c A' c', v = .agg #[.int .i64 (s.room : Int), str s.sure, str s.rest, .slice A 2 c, .slice A' 2 c'] ∧ Two w g r A s.n0 s.n1 ∧ Two w g r A' s.s0 s.s1
/-- A callee returns the reference's disk s. -/
def RetR (g : Nat) (r : Option Nat) (s : St) (w : World) (e : Ending) (w' : World) : Prop := ∃ v, e = .returned v ∧ RefAt w' g r v s ∧ Below w.heap.size w w'
def RetRE (g : Nat) (r : Option Nat) (s : St) (n : Int) (w : World) (e : Ending) (w' : World) : Prop := ∃ v, e = .returned (.tuple #[v, .int .i64 n]) ∧ RefAt w' g r v s ∧ Below w.heap.size w w'

section
variable {w w' : World} {g : Nat} {r r' : Option Nat} {A : Option Addr} {a b : List UInt8} {s : St} {v : Value}
theorem Two.at_ (h : Two w g r A a b) : ∃ k off, A = some ⟨k, off, none⟩ ∧ k < w.heap.size ∧ w.cell? ⟨k, off, none⟩ = some (str a) ∧ w.cell? ⟨k, off + 1, none⟩ = some (str b) := by
  obtain ⟨k, off, e, hb, hc⟩ := h.1.2 (by simp)
  exact ⟨k, off, e, hb, by simpa using hc 0 (by simp), by simpa using hc 1 (by simp)⟩
theorem Two.only (h : Two w g r A a b) (ho : Only g r w w') (hr : r' = r ∨ r' = none ∨ ∃ k, r' = some k ∧ w.heap.size ≤ k) : Two w' g r' A a b := by
  obtain ⟨k, off, e, hb, h0, h1⟩ := h.at_
  obtain ⟨h2, cs, fr, htag⟩ := h.2 k (by rw [e]; rfl)
  have hblk := ho.block k hb h2.1 h2.2
  refine ⟨⟨by simp, fun _ => ⟨k, off, e, Nat.lt_of_lt_of_le hb ho.size, fun j hj => ?_⟩⟩, fun k' hk' => ?_⟩
  · rw [World.cell?_of_block (a := ⟨k, off + j, none⟩) hblk]
    obtain ⟨k2, off2, e2, _, hc⟩ := h.1.2 (by simp)
    rw [e] at e2
    injection e2 with e2
    injection e2 with e3 e4
    subst e3 e4
    exact hc j hj
  · rw [e] at hk'
    simp [blkOf] at hk'
    subst hk'
    refine ⟨⟨h2.1, ?_⟩, cs, fr, hblk.trans htag⟩
    rcases hr with rfl | rfl | ⟨q, rfl, hq⟩
    · exact h2.2
    · simp
    · intro e; injection e with e; omega
theorem Two.below (h : Two w g r A a b) (hb : Below w.heap.size w w') : Two w' g r A a b := h.only (.of_below hb) (.inl rfl)
theorem RefAt.only (h : RefAt w g r v s) (ho : Only g r w w') (hr : r' = r ∨ r' = none ∨ ∃ k, r' = some k ∧ w.heap.size ≤ k) : RefAt w' g r' v s := by
  obtain ⟨A, c, A', c', e, h1, h2⟩ := h
  exact ⟨A, c, A', c', e, h1.only ho hr, h2.only ho hr⟩
theorem RefAt.below (h : RefAt w g r v s) (hb : Below w.heap.size w w') : RefAt w' g r v s := h.only (.of_below hb) (.inl rfl)
end

theorem RetR.mk {w w' : World} {g : Nat} {r : Option Nat} {s : St} {v : Value} (A : Option Addr) (c : Nat) (A' : Option Addr) (c' : Nat) (hb : Below w.heap.size w w') (h1 : Two w g r A s.n0 s.n1) (h2 : Two w g r A' s.s0 s.s1)
    (hv : v = .agg #[.int .i64 (s.room : Int), str s.sure, str s.rest, .slice A 2 c, .slice A' 2 c']) : RetR g r s w (.returned v) w' := ⟨v, rfl, ⟨A, c, A', c', hv, h1.below hb, h2.below hb⟩, hb⟩
theorem RetRE.mk {w w' : World} {g : Nat} {r : Option Nat} {s : St} {v : Value} {n : Int} (A : Option Addr) (c : Nat) (A' : Option Addr) (c' : Nat) (hb : Below w.heap.size w w') (h1 : Two w g r A s.n0 s.n1) (h2 : Two w g r A' s.s0 s.s1)
    (hv : v = .agg #[.int .i64 (s.room : Int), str s.sure, str s.rest, .slice A 2 c, .slice A' 2 c']) : RetRE g r s n w (.returned (.tuple #[v, .int .i64 n])) w' := ⟨v, rfl, ⟨A, c, A', c', hv, h1.below hb, h2.below hb⟩, hb⟩
theorem RetRE.mk2 {w w' : World} {g : Nat} {r : Option Nat} {s : St} {v : Value} {n : Int} (A : Option Addr) (c : Nat) (A' : Option Addr) (c' : Nat) (hb : Below w.heap.size w w') (h1 : Two w' g r A s.n0 s.n1) (h2 : Two w g r A' s.s0 s.s1)
    (hv : v = .agg #[.int .i64 (s.room : Int), str s.sure, str s.rest, .slice A 2 c, .slice A' 2 c']) : RetRE g r s n w (.returned (.tuple #[v, .int .i64 n])) w' := ⟨v, rfl, ⟨A, c, A', c', hv, h1, h2.below hb⟩, hb⟩
theorem Two.new (w : World) {w' : World} (hb : Below (w.heap.size + 1) (w.alloc (.cells #[str [], str []] 9)) w') (g : Nat) (r : Option Nat) (hg : g ≠ w.heap.size) (hr : r ≠ some w.heap.size) : Two w' g r (some ⟨w.heap.size, 0, none⟩) [] [] := by
  have hblk := (hb.block w.heap.size (by omega)).trans (heap_alloc_new w _)
  refine ⟨⟨by simp, fun _ => ⟨w.heap.size, 0, rfl, lt_of_block hblk, fun j hj => ?_⟩⟩, fun k hk => ?_⟩
  · rw [Nat.zero_add, cell_of_row w' w.heap.size j _ _ _ hblk]
    simp
  · simp [blkOf] at hk
    subst hk
    exact ⟨⟨fun e => hg e.symm, hr⟩, _, _, hblk⟩
theorem cells5 {w : World} {b : Nat} {x0 x1 x2 x3 x4 : Value} {t : TypeId} (h : w.heap[b]? = some (.cells #[x0, x1, x2, x3, x4] t (0, 0))) :
    (w.cell? ⟨b, 0, none⟩ = some x0 ∧ w.cell? ⟨b, 1, none⟩ = some x1 ∧ w.cell? ⟨b, 2, none⟩ = some x2 ∧ w.cell? ⟨b, 3, none⟩ = some x3 ∧ w.cell? ⟨b, 4, none⟩ = some x4) ∧
    (w.frozen? ⟨b, 0, none⟩ = false ∧ w.frozen? ⟨b, 1, none⟩ = false ∧ w.frozen? ⟨b, 2, none⟩ = false ∧ w.frozen? ⟨b, 3, none⟩ = false ∧ w.frozen? ⟨b, 4, none⟩ = false) := by
  have hc := fun j => cell_of_row w b j _ _ _ h
  exact ⟨⟨hc 0, hc 1, hc 2, hc 3, hc 4⟩, by simp [World.frozen?, h]⟩
/-- A block that a caller made, behind calls that leave it alone. -/
theorem blk_old {w w' : World} {b : Nat} {o : Obj} (hb : Below w.heap.size w w') (h : w.heap[b]? = some o) : w'.heap[b]? = some o := (hb.block b (lt_of_block h)).trans h
theorem blk_new (w : World) (o : Obj) : (w.alloc o).heap[w.heap.size]? = some o := heap_alloc_new w o
theorem blk_alloc {w : World} {b : Nat} {o : Obj} (h : w.heap[b]? = some o) (o' : Obj) : (w.alloc o').heap[b]? = some o := blk_old ((Below.refl _ _).alloc (Nat.le_refl _) _) h

set_option maxHeartbeats 800000 in
theorem rlog_any {w : World} {g : Nat} {r : Option Nat} {s : St} {v : Value} (h : RefAt w g r v s) (ho : s.ok) :
    Calls Try.prog 58 #[v] w fun e w' => e = .returned (str s.log) ∧ Below w.heap.size w w' := by
  obtain ⟨A, c, A', c', rfl, h1, h2⟩ := h
  have hb : s.sure.length + s.rest.length ≤ 1048576 := by have := ho.1; have := ho.2; simp [St.log] at this; omega
  clear h1 h2 ho
  go_enter Try.func58, Try.ntmps58
  go_wp2_with fail
  go_ret
  refine ⟨?_, (Below.refl _ _).alloc (Nat.le_refl _) _⟩
  rw [ba_append]
  rfl

set_option maxHeartbeats 800000 in
theorem rsync_any {w : World} {g : Nat} {r : Option Nat} {s : St} {v : Value} (h : RefAt w g r v s) (ho : s.ok) :
    Calls Try.prog 59 #[v] w (RetR g r s.sync w) := by
  have hl := fun W (b : Below w.heap.size w W) => rlog_any (h.below b) ho
  obtain ⟨A, c, A', c', rfl, h1, h2⟩ := h
  have Hhl := Lib.hid hl; clear hl
  have Hh1 := Lib.hid h1; clear h1
  have Hh2 := Lib.hid h2; clear h2
  go_enter Try.func59, Try.ntmps59
  go_wp2_with fail
  refine (Hhl.out _ (((Below.refl _ _).alloc (Nat.le_refl _) _).alloc (by simp) _)).mono ?_; rintro e w1 ⟨rfl, hb⟩
  obtain ⟨⟨c0, c1, c2, c3, c4⟩, f0, f1, f2, f3, f4⟩ := cells5 (blk_old hb (blk_alloc (blk_new w _) _))
  obtain ⟨⟨d0, d1, d2, d3, d4⟩, e0, e1, e2, e3, e4⟩ := cells5 (blk_old hb (blk_new (w.alloc _) _))
  simp only [World.size_alloc] at d0 d1 d2 d3 d4 e0 e1 e2 e3 e4
  have B := Lib.hid hb; clear hb
  go_wp2_with fail
  have b1 := ((((Below.refl _ _).alloc (Nat.le_refl _) _).alloc (by simp) _).trans (B.out.mono (by simp; omega)))
  refine bodyPost_ret (v := .agg #[.int .i64 (s.room : Int), str s.log, str [], .slice A 2 c, .slice A 2 c]) (by simp [results, Try.results59, go_sem, d0, d1, d2, d3, d4]) rfl ?_
  refine RetR.mk A c A c ?_ Hh1.out Hh1.out rfl
  repeat (first | (with_reducible exact b1) | refine Below.setCell ?_ (by simp <;> omega) _ | refine Below.alloc ?_ (by simp <;> omega) _ | refine Below.drew ?_)

set_option maxHeartbeats 800000 in
theorem rnew_any (room : Int) (w : World) (g : Nat) (r : Option Nat) (hg : g < w.heap.size) (hr : ∀ k, r = some k → k < w.heap.size) :
    Calls Try.prog 16 #[.int .i64 room] w (RetR g r (newS room) w) := by
  go_enter Try.func16, Try.ntmps16
  have fin : ∀ (n : Nat) (x : Value), newS room = ⟨n, [], [], [], [], [], []⟩ → x = .int .i64 n → RetR g r (newS room) w (.returned (.agg #[x, str [], str [], .slice (some ⟨w.heap.size + 1, 0, none⟩) 2 2, .slice (some ⟨w.heap.size + 1 + 1, 0, none⟩) 2 2]))
      (((w.alloc (.cells #[x, str [], str [], .slice (some ⟨w.heap.size + 1, 0, none⟩) 2 2, .slice (some ⟨w.heap.size + 1 + 1, 0, none⟩) 2 2] 27)).alloc (.cells #[str [], str []] 9)).alloc (.cells #[str [], str []] 9)) := by
    intro n x hn hx
    subst hx
    rw [hn]
    have ne : ∀ q, w.heap.size ≤ q → r ≠ some q := fun q hq e => by have := hr q e; omega
    refine ⟨_, rfl, ⟨_, _, _, _, rfl, ?_, ?_⟩, ?_⟩
    · have := Two.new (w.alloc (.cells #[.int .i64 (n : Int), str [], str [], .slice (some ⟨w.heap.size + 1, 0, none⟩) 2 2, .slice (some ⟨w.heap.size + 1 + 1, 0, none⟩) 2 2] 27)) ((Below.refl _ _).alloc (by simp) (.cells #[str [], str []] 9)) g r (by simp; omega) (by simp; exact ne _ (by omega))
      simpa using this
    · have := Two.new ((w.alloc (.cells #[.int .i64 (n : Int), str [], str [], .slice (some ⟨w.heap.size + 1, 0, none⟩) 2 2, .slice (some ⟨w.heap.size + 1 + 1, 0, none⟩) 2 2] 27)).alloc (.cells #[str [], str []] 9)) (Below.refl _ _) g r (by simp; omega) (by simp; exact ne _ (by omega))
      simpa using this
    · exact (((Below.refl _ _).alloc (Nat.le_refl _) _).alloc (by simp) _).alloc (by simp; omega) _
  have F := Lib.hid fin; clear fin
  by_cases h0 : room < 0
  · go_wp2_with fail
    refine bodyPost_ret (v := .agg #[.int .i64 0, str [], str [], .slice (some ⟨w.heap.size + 1, 0, none⟩) 2 2, .slice (some ⟨w.heap.size + 1 + 1, 0, none⟩) 2 2]) (by simp [results, Try.results16, go_sem]) rfl ?_
    exact F.out 0 _ (by simp [newS]; omega) rfl
  · have h0' : 0 ≤ room := by omega
    by_cases h1 : 1048576 < room
    · go_wp2_with fail
      refine bodyPost_ret (v := .agg #[.int .i64 1048576, str [], str [], .slice (some ⟨w.heap.size + 1, 0, none⟩) 2 2, .slice (some ⟨w.heap.size + 1 + 1, 0, none⟩) 2 2]) (by simp [results, Try.results16, go_sem]) rfl ?_
      exact F.out 1048576 _ (by simp [newS]; omega) rfl
    · have h1' : room ≤ 1048576 := by omega
      clear h0 h1
      go_wp2_with fail
      refine bodyPost_ret (v := .agg #[.int .i64 room, str [], str [], .slice (some ⟨w.heap.size + 1, 0, none⟩) 2 2, .slice (some ⟨w.heap.size + 1 + 1, 0, none⟩) 2 2]) (by simp [results, Try.results16, go_sem]) rfl ?_
      exact F.out room.toNat _ (by simp [newS]; omega) (by rw [Int.toNat_of_nonneg h0'])

set_option maxHeartbeats 800000 in
theorem rcrash_any {w : World} {g : Nat} {r : Option Nat} {s : St} {v : Value} (k : Int) (h : RefAt w g r v s) (ho : s.ok) :
    Calls Try.prog 32 #[v, .int .i64 k] w (RetR g r (s.crash k) w) := by
  obtain ⟨A, c, A', c', rfl, h1, h2⟩ := h
  have Hh1 := Lib.hid h1; clear h1
  have Hh2 := Lib.hid h2; clear h2
  have hb : s.sure.length + s.rest.length ≤ 1048576 := by have := ho.1; have := ho.2; simp [St.log] at this; omega
  by_cases hk : k < 0
  · go_enter Try.func32, Try.ntmps32
    go_wp2_with fail
    go_region
    go_wp2_with fail
    refine bodyPost_ret (v := .agg #[.int .i64 (s.room : Int), str s.sure, str [], .slice A' 2 c', .slice A' 2 c']) (by simp [results, Try.results32, go_sem]) rfl ?_
    refine RetR.mk A' c' A' c' ?_ Hh2.out Hh2.out ?_
    · repeat (first | (with_reducible exact (Below.refl _ _)) | refine Below.setCell ?_ (by simp <;> omega) _ | refine Below.alloc ?_ (by simp <;> omega) _ | refine Below.drew ?_)
    · simp [St.crash, Int.toNat_of_nonpos (Int.le_of_lt hk)]
  · have hk0 : 0 ≤ k := by omega
    obtain ⟨m, rfl⟩ := Int.eq_ofNat_of_zero_le hk0
    clear hk hk0
    by_cases hm : s.rest.length < m
    · go_enter Try.func32, Try.ntmps32
      go_wp2_with fail
      go_region
      go_wp2_with fail
      have ex : (ByteArray.mk s.sure.toArray) ++ (ByteArray.mk s.rest.toArray).extract 0 s.rest.length = ⟨(s.sure ++ s.rest).toArray⟩ := by rw [ba_take, List.take_of_length_le (Nat.le_refl _), ba_append]
      rw [ex]
      refine bodyPost_ret (v := .agg #[.int .i64 (s.room : Int), str (s.sure ++ s.rest), str [], .slice A' 2 c', .slice A' 2 c']) (by simp [results, Try.results32, go_sem]) rfl ?_
      refine RetR.mk A' c' A' c' ?_ Hh2.out Hh2.out ?_
      · repeat (first | (with_reducible exact (Below.refl _ _)) | refine Below.setCell ?_ (by simp <;> omega) _ | refine Below.alloc ?_ (by simp <;> omega) _ | refine Below.drew ?_)
      · simp only [St.crash, Int.toNat_natCast, List.take_of_length_le (Nat.le_of_lt hm)]
    · have hm' : m ≤ s.rest.length := by omega
      clear hm
      go_enter Try.func32, Try.ntmps32
      go_wp2_with fail
      go_region
      go_wp2_with fail
      have ex : (ByteArray.mk s.sure.toArray) ++ (ByteArray.mk s.rest.toArray).extract 0 m = ⟨(s.sure ++ s.rest.take m).toArray⟩ := by rw [ba_take, ba_append]
      rw [ex]
      refine bodyPost_ret (v := .agg #[.int .i64 (s.room : Int), str (s.sure ++ s.rest.take m), str [], .slice A' 2 c', .slice A' 2 c']) (by simp [results, Try.results32, go_sem]) rfl ?_
      refine RetR.mk A' c' A' c' ?_ Hh2.out Hh2.out ?_
      · repeat (first | (with_reducible exact (Below.refl _ _)) | refine Below.setCell ?_ (by simp <;> omega) _ | refine Below.alloc ?_ (by simp <;> omega) _ | refine Below.drew ?_)
      · simp only [St.crash, Int.toNat_natCast]

set_option maxHeartbeats 800000 in
theorem rappend_any {w : World} {g : Nat} {r : Option Nat} {s : St} {v : Value} (b : List UInt8) (h : RefAt w g r v s) (ho : s.ok) (hlen : b.length ≤ 1000000) :
    Calls Try.prog 61 #[v, str b] w (RetRE g r (s.app b).1 (s.app b).2 w) := by
  have hl := fun W (b : Below w.heap.size w W) => rlog_any (h.below b) ho
  obtain ⟨A, c, A', c', rfl, h1, h2⟩ := h
  have Hhl := Lib.hid hl; clear hl
  have Hh1 := Lib.hid h1; clear h1
  have Hh2 := Lib.hid h2; clear h2
  have hb : s.sure.length + s.rest.length ≤ 1048576 := by have := ho.1; have := ho.2; simp [St.log] at this; omega
  have hb2 : s.log.length = s.sure.length + s.rest.length := by simp [St.log]
  have hb3 : s.log.length ≤ 1048576 := by omega
  have hb4 : (s.room : Int) ≤ 1048576 := by have := ho.1; omega
  have Hhb2 := Lib.hid hb2; clear hb2
  have hw : IntKind.i64.wrap ((s.log.length : Int) + (b.length : Int)) = (s.log.length : Int) + (b.length : Int) := IntWalk.i64_in _ (by omega)
  go_enter Try.func61, Try.ntmps61
  go_wp2_with fail
  refine wp_region_sched [(0, true), (3, true), (4, true), (6, true), (7, true), (1, false), (2, true), (5, true), (8, true)] (by kernel_rfl) (by kernel_rfl) (fun _ _ d _ _ h => by cases d <;> exact h) ?_
  refine swith (fun W hW => (cells5 (blk_old hW.out (blk_alloc (blk_new w _) _))).1) (fun q => ?_)
  repeat (first | (refine sreadx rfl rfl ?_; apply Exists.intro; apply And.intro; (· (intro W hW; first | (go_simp; done) | (go_simp; with_reducible rfl) | (go_simp; rw [if_neg (by omega)]; done) | (go_simp; rw [if_neg (by omega)]; with_reducible rfl))); simp only [Act.put, List.setIfInBounds_toArray, List.set_cons_zero, List.set_cons_succ]) | (refine sskip rfl rfl ?_; simp only [Act.put, List.setIfInBounds_toArray, List.set_cons_zero, List.set_cons_succ]))
  refine scall rfl rfl (fun K hK => ?_)
  go_simp
  refine (Hhl.out _ (((Below.refl _ _).alloc (Nat.le_refl _) _).alloc (by simp) _).drew).mono ?_; rintro e w1 ⟨rfl, b1⟩
  go_wp2_with fail
  refine hK.out _ _ (by exact b1) ?_
  clear hK K
  try simp only [Act.put, List.setIfInBounds_toArray, List.set_cons_zero, List.set_cons_succ]
  replace q := fun (W : World) (hW : Grow w1 W) => q W (Grow.trans (b1) hW)
  repeat (first | (refine sreadx rfl rfl ?_; apply Exists.intro; apply And.intro; (· (intro W hW; first | (go_simp; done) | (go_simp; with_reducible rfl) | (go_simp; rw [if_neg (by omega)]; done) | (go_simp; rw [if_neg (by omega)]; with_reducible rfl))); simp only [Act.put, List.setIfInBounds_toArray, List.set_cons_zero, List.set_cons_succ]) | (refine sskip rfl rfl ?_; simp only [Act.put, List.setIfInBounds_toArray, List.set_cons_zero, List.set_cons_succ]))
  refine sdone ?_
  obtain ⟨⟨c0, c1, c2, c3, c4⟩, f0, f1, f2, f3, f4⟩ := cells5 (blk_old b1 (blk_alloc (blk_new w _) _))
  obtain ⟨⟨d0, d1, d2, d3, d4⟩, e0, e1, e2, e3, e4⟩ := cells5 (blk_old b1 (blk_new (w.alloc _) _))
  simp only [World.size_alloc] at d0 d1 d2 d3 d4 e0 e1 e2 e3 e4
  clear q hw
  have b2 := (((((Below.refl w.heap.size w).alloc (Nat.le_refl _) _).alloc (by simp) _).drew).trans (b1.mono (by simp; omega)))
  clear b1
  by_cases hf : s.room < s.log.length + b.length
  · have hE : s.app b = (s, 4) := by simp [St.app, hf]
    have hd : decide ((s.room : Int) < (s.log.length : Int) + (b.length : Int)) = true := by simp; omega
    have HhE := Lib.hid hE; clear hE
    go_wp2_with fail
    refine bodyPost_ret (v := .tuple #[.agg #[.int .i64 (s.room : Int), str s.sure, str s.rest, .slice A 2 c, .slice A' 2 c'], .int .i64 4]) (by simp [results, Try.results61, go_sem, d0, d1, d2, d3, d4]) rfl ?_
    rw [HhE.out]
    refine RetRE.mk A c A' c' ?_ Hh1.out Hh2.out rfl
    repeat (first | (with_reducible exact b2) | refine Below.setCell ?_ (by simp <;> omega) _ | refine Below.alloc ?_ (by simp <;> omega) _ | refine Below.drew ?_)
  · have hE : s.app b = ({ s with rest := s.rest ++ b }, 0) := by simp [St.app, hf]
    have hd : decide ((s.room : Int) < (s.log.length : Int) + (b.length : Int)) = false := by simp; omega
    have HhE := Lib.hid hE; clear hE
    go_wp2_with fail
    rw [ba_append]
    refine bodyPost_ret (v := .tuple #[.agg #[.int .i64 (s.room : Int), str s.sure, str (s.rest ++ b), .slice A 2 c, .slice A' 2 c'], .int .i64 0]) (by simp [results, Try.results61, go_sem, d0, d1, d2, d3, d4]) rfl ?_
    rw [HhE.out]
    refine RetRE.mk A c A' c' ?_ Hh1.out Hh2.out rfl
    repeat (first | (with_reducible exact b2) | refine Below.setCell ?_ (by simp <;> omega) _ | refine Below.alloc ?_ (by simp <;> omega) _ | refine Below.drew ?_)

theorem strElem : Elem Try.prog 25 9 1 16 (.string ByteArray.empty) := by
  obtain ⟨i, hi, h1, h2, h3⟩ := info_parts (show (Try.prog.info? 9).map (fun i => (i.zero, i.size, i.bytes)) = some (some (.string ByteArray.empty), 1, 16) by kernel_rfl)
  exact ⟨Try.underlying25, i, hi, h1, h2, h3, rfl, by omega⟩

/-- The row of an empty slice literal. -/
theorem own_lit0 (w : World) {base e b : Nat} (hb : b = w.heap.size) (hB : base ≤ b) : (w.alloc (.cells #[] e)).ownsRow base e 1 (.slice (some ⟨b, 0, none⟩) 0 0) 0 [] := by
  subst hb
  exact own_lit w [] hB (by simp)
theorem Two.own {w : World} {base G c : Nat} {a b : List UInt8} (h : w.ownsRow base 9 1 (.slice (some ⟨G, 0, none⟩) 2 c) 2 [str a, str b]) (g : Nat) (r : Option Nat) (hg : G ≠ g) (hr : r ≠ some G) : Two w g r (some ⟨G, 0, none⟩) a b := by
  refine ⟨Rd.of_own h, fun k hk => ?_⟩
  simp [blkOf] at hk
  subst hk
  refine ⟨⟨hg, hr⟩, ?_⟩
  rcases h.2 with ⟨h', _⟩ | ⟨g', cap', cur, h', _, hgg, _⟩
  · simp at h'
  · simp only [Value.slice.injEq, Option.some.injEq, Addr.mk.injEq, and_true, true_and] at h'
    obtain ⟨rfl, rfl⟩ := h'
    exact ⟨_, _, hgg⟩
/-- What 'append([]string{}, d.Now...)' leaves, d's box and the result's box being new. -/
theorem after_app (w : World) (cs rs : Array Value) (A2 : Option Addr) (c2 : Nat) (w3 : World) {base e t : Nat} {xs : List Value} {m k : Nat}
    (hown : w3.ownsRow base e 1 (.slice A2 (0 + 2) c2) (0 + 2) ([] ++ xs))
    (hg : (((w.alloc (.cells cs t)).alloc (.cells rs t)).alloc (.cells #[] e)).grownBy w3 (Value.slice (some ⟨w.heap.size + 1 + 1, 0, none⟩) m k).ownBlock)
    (hr : (Value.slice A2 (0 + 2) c2).ownBlock = (Value.slice (some ⟨w.heap.size + 1 + 1, 0, none⟩) m k).ownBlock ∨ (Value.slice A2 (0 + 2) c2).ownBlock = some (((w.alloc (.cells cs t)).alloc (.cells rs t)).alloc (.cells #[] e)).heap.size) :
    ∃ G, A2 = some ⟨G, 0, none⟩ ∧ w.heap.size + 2 ≤ G ∧ w3.cell? ⟨G, 0, none⟩ = xs[0]? ∧ w3.cell? ⟨G, 1, none⟩ = xs[1]? ∧ (∀ j, w3.frozen? ⟨G, j, none⟩ = false) ∧ w3.heap[w.heap.size]? = some (.cells cs t (0, 0)) ∧ w3.heap[w.heap.size + 1]? = some (.cells rs t (0, 0)) ∧
      w3.ownsRow base e 1 (.slice (some ⟨G, 0, none⟩) 2 c2) 2 xs ∧ Below w.heap.size w w3 := by
  obtain ⟨G, rfl, _, _⟩ := own_at hown (by omega)
  have h2 : w.heap.size + 2 ≤ G := by
    simp [Value.ownBlock] at hr
    omega
  have hblk : ∀ b o, b < w.heap.size + 2 → (((w.alloc (.cells cs t)).alloc (.cells rs t)).alloc (.cells #[] e)).heap[b]? = some o → w3.heap[b]? = some o := by
    intro b o hb h
    rw [hg.block b (by simp; omega) (by simp [Value.ownBlock]; omega)]
    exact h
  refine ⟨G, rfl, h2, hown.cellAt 0 (by omega), hown.cellAt 1 (by omega), hown.frozenAt, hblk _ _ (by omega) (blk_alloc (blk_alloc (blk_new w _) _) _), hblk _ _ (by omega) ?_, hown, ?_⟩
  · have := blk_alloc (blk_new (w.alloc (.cells cs t)) (.cells rs t)) (.cells #[] e)
    simpa using this
  · refine ⟨hg.os, hg.tape, hg.output, ?_, fun k hk => ?_⟩
    · have := hg.size; simp at this; omega
    · rw [hg.block k (by simp; omega) (by simp [Value.ownBlock]; omega)]
      exact ((((Below.refl _ _).alloc (Nat.le_refl _) _).alloc (by simp) _).alloc (by simp; omega) _).block k hk

set_option maxHeartbeats 800000 in
theorem rwrite_any {w : World} {g : Nat} {r : Option Nat} {s : St} {v : Value} (k : Int) (b : List UInt8) (h : RefAt w g r v s) (hg : g < w.heap.size) (hr : ∀ k, r = some k → k < w.heap.size) :
    Calls Try.prog 60 #[v, .int .i64 k, str b] w (RetRE g r (s.write k b).1 (s.write k b).2 w) := by
  obtain ⟨A, c, A', c', rfl, h1, h2⟩ := h
  by_cases hk : k = 0 ∨ k = 1
  · have Hh1 := Lib.hid h1; clear h1
    have Hh2 := Lib.hid h2; clear h2
    have hkb : (k != 0 && k != 1) = false := by rcases hk with rfl | rfl <;> rfl
    rcases hk with rfl | rfl
    · have hE : s.write 0 b = ({ s with n0 := b }, 0) := by simp [St.write]
      have HhE := Lib.hid hE; clear hE
      go_enter Try.func60, Try.ntmps60
      go_wp2_with (at_builtin; (refine wpList_app rfl (.tmp 15) (.tmp 17) strElem rfl w.heap.size [] rfl (own_lit0 _ (by simp) (by omega)) rfl [str s.n0, str s.n1] (((Hh1.out.1.alloc (Nat.le_refl _) _).alloc (by simp) _).alloc (by simp <;> omega) _) (by simp [Value.oneCell']) (by simp [maxLen]) (by simp) (by simp <;> omega) ?_; intro A2 c2 w3 hown3 hg3 hr3; obtain ⟨G, hG, hG1, hc0, hc1, hfz, hD, hRes, HO, HB⟩ := after_app w _ _ A2 c2 w3 hown3 hg3 hr3; subst hG; clear hown3 hg3 hr3; obtain ⟨⟨c0, c1, c2', c3, c4⟩, f0, f1, f2, f3, f4⟩ := cells5 hD; obtain ⟨⟨d0, d1, d2, d3, d4⟩, e0, e1, e2, e3, e4⟩ := cells5 hRes; clear hD hRes; have hne1 : w.heap.size ≠ G := (by omega); have hne2 : w.heap.size + 1 ≠ G := (by omega)))
      refine bodyPost_ret (v := .tuple #[.agg #[.int .i64 (s.room : Int), str s.sure, str s.rest, .slice (some ⟨G, 0, none⟩) 2 c2, .slice A' 2 c'], .int .i64 0]) (by simp [results, Try.results60, go_sem, d0, d1, d2, d3, d4]) rfl ?_
      rw [HhE.out]
      have o1 := ownsRow_setCell_other HO (a := ⟨w.heap.size, 3, none⟩) (by simp [Value.ownBlock]; omega) (.slice (some ⟨G, 0, none⟩) 2 c2)
      have o2 := (o1.stored 0 (str b)).1
      refine RetRE.mk2 (some ⟨G, 0, none⟩) c2 A' c' ?_ (Two.own (base := w.heap.size) (c := c2) ?_ g r (by omega) (fun e => by have := hr _ e; omega)) Hh2.out rfl
      · repeat (first | (with_reducible exact HB) | refine Below.setCell ?_ (by simp <;> omega) _ | refine Below.alloc ?_ (by simp <;> omega) _ | refine Below.drew ?_)
      · repeat refine ownsRow_setCell_other ?_ (by simp [Value.ownBlock]; omega) _
        exact o2
    · have hE : s.write 1 b = ({ s with n1 := b }, 0) := by simp [St.write]
      have HhE := Lib.hid hE; clear hE
      go_enter Try.func60, Try.ntmps60
      go_wp2_with (at_builtin; (refine wpList_app rfl (.tmp 15) (.tmp 17) strElem rfl w.heap.size [] rfl (own_lit0 _ (by simp) (by omega)) rfl [str s.n0, str s.n1] (((Hh1.out.1.alloc (Nat.le_refl _) _).alloc (by simp) _).alloc (by simp <;> omega) _) (by simp [Value.oneCell']) (by simp [maxLen]) (by simp) (by simp <;> omega) ?_; intro A2 c2 w3 hown3 hg3 hr3; obtain ⟨G, hG, hG1, hc0, hc1, hfz, hD, hRes, HO, HB⟩ := after_app w _ _ A2 c2 w3 hown3 hg3 hr3; subst hG; clear hown3 hg3 hr3; obtain ⟨⟨c0, c1, c2', c3, c4⟩, f0, f1, f2, f3, f4⟩ := cells5 hD; obtain ⟨⟨d0, d1, d2, d3, d4⟩, e0, e1, e2, e3, e4⟩ := cells5 hRes; clear hD hRes; have hne1 : w.heap.size ≠ G := (by omega); have hne2 : w.heap.size + 1 ≠ G := (by omega)))
      refine bodyPost_ret (v := .tuple #[.agg #[.int .i64 (s.room : Int), str s.sure, str s.rest, .slice (some ⟨G, 0, none⟩) 2 c2, .slice A' 2 c'], .int .i64 0]) (by simp [results, Try.results60, go_sem, d0, d1, d2, d3, d4]) rfl ?_
      rw [HhE.out]
      have o1 := ownsRow_setCell_other HO (a := ⟨w.heap.size, 3, none⟩) (by simp [Value.ownBlock]; omega) (.slice (some ⟨G, 0, none⟩) 2 c2)
      have o2 := (o1.stored 1 (str b)).1
      refine RetRE.mk2 (some ⟨G, 0, none⟩) c2 A' c' ?_ (Two.own (base := w.heap.size) (c := c2) ?_ g r (by omega) (fun e => by have := hr _ e; omega)) Hh2.out rfl
      · repeat (first | (with_reducible exact HB) | refine Below.setCell ?_ (by simp <;> omega) _ | refine Below.alloc ?_ (by simp <;> omega) _ | refine Below.drew ?_)
      · repeat refine ownsRow_setCell_other ?_ (by simp [Value.ownBlock]; omega) _
        exact o2
  · have k0 : (k == 0) = false := by simp at hk ⊢; omega
    have k1 : (k == 1) = false := by simp at hk ⊢; omega
    have k2 : (k != 0) = true := by simp at hk ⊢; omega
    have k3 : (k != 1) = true := by simp at hk ⊢; omega
    have hE : s.write k b = (s, 1) := by simp at hk; simp [St.write, hk]
    clear hk
    have Hh1 := Lib.hid h1; clear h1
    have Hh2 := Lib.hid h2; clear h2
    have HhE := Lib.hid hE; clear hE
    go_enter Try.func60, Try.ntmps60
    go_wp2_with fail
    refine bodyPost_ret (v := .tuple #[.agg #[.int .i64 (s.room : Int), str s.sure, str s.rest, .slice A 2 c, .slice A' 2 c'], .int .i64 1]) (by simp [results, Try.results60, go_sem]) rfl ?_
    rw [HhE.out]
    refine RetRE.mk A c A' c' ?_ Hh1.out Hh2.out rfl
    repeat (first | (with_reducible exact (Below.refl _ _)) | refine Below.setCell ?_ (by simp <;> omega) _ | refine Below.alloc ?_ (by simp <;> omega) _ | refine Below.drew ?_)
end Go.Proofs.Ytkcehoejcklmfaa.K
