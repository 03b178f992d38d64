/- The contracts of disk.Append, Write, Crash. -/
import Derived.Test.YtkcehoejcklmfaaDiskFns
import Derived.BigRegion
import Derived.IntWalk
namespace Go.Proofs.Ytkcehoejcklmfaa.K
open Go.RowKit D O

/-- An append to the log: the row grew in place or moved. -/
theorem Lies.app {w w1 w2 : World} {base g : Nat} {l n0 n1 s0 s1 : Sl} {s : St} {A2 : Option Addr} {m c2 : Nat} {b : List UInt8} (h : Lies w base g l n0 n1 s0 s1 s) (h01 : Below w.heap.size w w1) (hb : s.log.length + b.length ≤ s.room)
    (hown : w2.ownsRow base 5 1 (.slice A2 m c2) m (bv s.log ++ bv b)) (hg : w1.grownBy w2 (Value.slice l.a l.n l.c).ownBlock) (hr : (Value.slice A2 m c2).ownBlock = (Value.slice l.a l.n l.c).ownBlock ∨ (Value.slice A2 m c2).ownBlock = some w1.heap.size) :
    Turned base g (blkOf l.a) (s.app b).1 w (w2.setCell ⟨g, 0, none⟩ (.slice A2 m c2)) := by
  have h1 := h.below h01
  have hlt := h1.lt
  rw [own_blk] at hg
  rw [own_blk, own_blk] at hr
  have e0 : (s.app b).1 = { s with rest := s.rest ++ b } := by unfold St.app; rw [if_neg (by omega)]
  have ho1 : Only g (blkOf l.a) w1 w2 := ⟨hg.os, hg.tape, hg.output, hg.size, fun k hk _ hr => hg.block k hk (fun e => hr e.symm)⟩
  have ho2 : Only g (blkOf l.a) w1 (w2.setCell ⟨g, 0, none⟩ (.slice A2 m c2)) := ho1.setCell _ _
  have ho : Only g (blkOf l.a) w (w2.setCell ⟨g, 0, none⟩ (.slice A2 m c2)) :=
    ⟨ho2.os.trans h01.os, ho2.tape.trans h01.tape, ho2.output.trans h01.output, Nat.le_trans h01.size ho2.size, fun k hk hg hr => (ho2.block k (Nat.lt_of_lt_of_le hk h01.size) hg hr).trans (h01.block k hk)⟩
  have hoff : blkOf A2 ≠ some g := by
    rcases hr with e | e
    · rw [e]; exact h.off
    · rw [e]; intro e; injection e with e; omega
  have hrow : ∀ w : World, w.heap.size ≤ w1.heap.size → (blkOf A2 = blkOf l.a ∨ blkOf A2 = none ∨ ∃ k, blkOf A2 = some k ∧ w.heap.size ≤ k) := fun w hw => hr.imp id fun e => .inr ⟨_, e, hw⟩
  have hn : ∀ {x y}, RdO w g (blkOf l.a) x y → RdO (w2.setCell ⟨g, 0, none⟩ (.slice A2 m c2)) g (blkOf A2) x y := by
    intro x y q
    have q1 := (q.row (hrow w h01.size))
    have q2 := q.only ho
    exact ⟨q2.1, q1.2⟩
  rw [e0]
  refine ⟨ho, _, ⟨⟨A2, m, c2⟩, n0, n1, s0, s1, ⟨?_, h.lo, ?_, hoff, hn h.rn0, hn h.rn1, hn h.rs0, hn h.rs1, ?_⟩, rfl⟩, hrow w h01.size⟩
  · rw [row_setCell ((hg.block g hlt (fun e => h.off e.symm)).trans h1.blk)]
    simp [cellsD]
  · have := ownsRow_setCell_other hown (a := ⟨g, 0, none⟩) (by rw [own_blk]; exact hoff) (.slice A2 m c2)
    simpa [St.log, bv_append] using this
  · have := app_ok h.ok b
    rwa [e0] at this

set_option maxHeartbeats 800000 in
theorem append_any {w : World} {base g : Nat} {r : Option Nat} {s : St} (h : DiskAt w base g r s) (A' : Option Addr) (m c' : Nat) (b : List UInt8) (hb : Rd w w.heap.size 1 A' m (bv b)) (hbase : base ≤ w.heap.size) (hm : m ≤ 140737488355328) :
    Calls Try.prog 30 #[ptr g, .slice A' m c'] w fun e w' => e = .returned (.int .i64 (s.app b).2) ∧ Turned base g r (s.app b).1 w w' := by
  have HR := Lib.hid (@room_any' w base g r s h)
  obtain ⟨⟨A, n, c⟩, ⟨A0, n0, c0⟩, ⟨A1, n1, c1⟩, s0, s1, h, rfl⟩ := h
  have hl : b.length = m := by have := hb.1; simp at this; omega
  have d0 := h.cell 0
  have f0 := h.free 0
  have hn := h.len
  have ho := h.ok
  simp [cellsD] at d0 hn
  subst hn
  subst hl
  have H := Lib.hid h; clear h
  have ho1 := ho.1
  have ho2 := ho.2
  go_enter Try.func30, Try.ntmps30
  go_wp2_with fail
  refine HR.out.mono ?_; rintro e w1 ⟨rfl, hb1⟩
  clear HR
  by_cases hf : s.room < s.log.length + b.length
  · go_wp2_with fail
    go_ret
    have e0 : s.app b = (s, 4) := by simp [St.app, hf]
    rw [e0]
    exact ⟨rfl, .of_below hb1, _, ⟨_, _, _, _, _, H.out.below hb1, rfl⟩, .inl rfl⟩
  · have d0' := (hb1.cell (p := ⟨g, 0, none⟩) H.out.lt).trans d0
    have f0' := (hb1.frozen (p := ⟨g, 0, none⟩) H.out.lt).trans f0
    go_wp2_with (at_builtin; refine wpList_app rfl (.tmp 18) (.tmp 19) byteElem rfl base (bv s.log) rfl (own_below H.out.log hb1) rfl (bv b) (hb.next hb1) (bv_one b) (by unfold maxLen; omega) (by omega) (by have := hb1.size; omega) ?_; intro A3 c3 w3 hown3 hg3 hr3; have d3 := hg3.cell d0' (by have := H.out.off; rw [own_blk]; exact fun e => this e.symm); have f3 := (World.frozen?_of_block (a := ⟨g, 0, none⟩) (hg3.block g (H.out.below hb1).lt (by have := H.out.off; rw [own_blk]; exact fun e => this e.symm))).trans f0')
    go_ret
    have e0 : (s.app b).2 = 0 := by unfold St.app; rw [if_neg (by omega)]
    rw [e0]
    exact ⟨rfl, H.out.app hb1 (by omega) hown3 hg3 hr3⟩

theorem Lies.crash {w : World} {base g : Nat} {A : Option Addr} {n c : Nat} {n0 n1 : Sl} {A0 A1 : Option Addr} {m0 c0 m1 c1 : Nat} {s : St} {k : Int} {e : Nat} (h : Lies w base g ⟨A, n, c⟩ n0 n1 ⟨A0, m0, c0⟩ ⟨A1, m1, c1⟩ s) (he : e = s.sure.length + min k.toNat s.rest.length) :
    Turned base g (blkOf A) (s.crash k) w ((((w.setCell ⟨g, 0, none⟩ (.slice A e c)).setCell ⟨g, 1, none⟩ (.int .i64 (e : Int))).setCell ⟨g, 3, none⟩ (.slice A0 m0 c0)).setCell ⟨g, 4, none⟩ (.slice A1 m1 c1)).drew := by
  have hl : s.log.length = n := h.len
  have hlog : (s.crash k).log = s.log.take e := by
    simp only [St.crash, St.log, List.append_nil, he]
    have q1 : s.sure.take (s.sure.length + min k.toNat s.rest.length) = s.sure := List.take_of_length_le (by omega)
    have q2 : s.rest.take (min k.toNat s.rest.length) = s.rest.take k.toNat := List.take_eq_take_iff.2 (by omega)
    rw [List.take_append, Nat.add_sub_cancel_left, q1, q2]
  have hlen : e = (s.crash k).sure.length := by simp [St.crash, he]
  have hen : e ≤ n := by rw [← hl]; simp [St.log, he]; omega
  have ho : Only g none w ((((w.setCell ⟨g, 0, none⟩ (.slice A e c)).setCell ⟨g, 1, none⟩ (.int .i64 (e : Int))).setCell ⟨g, 3, none⟩ (.slice A0 m0 c0)).setCell ⟨g, 4, none⟩ (.slice A1 m1 c1)).drew :=
    (((((Only.refl _ _ _).setCell _ _).setCell _ _).setCell _ _).setCell _ _).drew
  refine ⟨ho.weak, _, ⟨⟨A, e, c⟩, ⟨A0, m0, c0⟩, ⟨A1, m1, c1⟩, ⟨A0, m0, c0⟩, ⟨A1, m1, c1⟩, ⟨?_, h.lo, ?_, h.off, h.rs0.only ho.weak, h.rs1.only ho.weak, h.rs0.only ho.weak, h.rs1.only ho.weak, crash_ok h.ok k⟩, rfl⟩, .inl rfl⟩
  · have : ((((w.setCell ⟨g, 0, none⟩ (.slice A e c)).setCell ⟨g, 1, none⟩ (.int .i64 (e : Int))).setCell ⟨g, 3, none⟩ (.slice A0 m0 c0)).setCell ⟨g, 4, none⟩ (.slice A1 m1 c1)).heap[g]? = _ := row_setCell (row_setCell (row_setCell (row_setCell h.blk)))
    refine Eq.trans this ?_
    rw [hlen]
    simp [cellsD, St.crash]
  · rw [hlog, ← bv_take]
    exact own_take (h.own ho) hen

set_option maxRecDepth 100000 in
set_option maxHeartbeats 4000000 in
theorem crash_any {w : World} {base g : Nat} {r : Option Nat} {s : St} (h : DiskAt w base g r s) (k : Int) :
    Calls Try.prog 21 #[ptr g, .int .i64 k] w fun e w' => e = .returned (.tuple #[]) ∧ Turned base g r (s.crash k) w w' := by
  obtain ⟨⟨A, n, c⟩, s0, s1, ⟨A0, n0, c0⟩, ⟨A1, n1, c1⟩, h, rfl⟩ := h
  have d0 := h.cell 0
  have d1 := h.cell 1
  have d5 := h.cell 5
  have d6 := h.cell 6
  have d3 := h.cell 3
  have d4 := h.cell 4
  have f0 := h.free 0
  have f1 := h.free 1
  have f3 := h.free 3
  have f4 := h.free 4
  have hl := h.len
  have ho1 := h.ok.1
  have ho2 := h.ok.2
  simp [cellsD] at d0 d1 d3 d4 d5 d6 hl
  have hsl : s.sure.length + s.rest.length = n := by rw [← hl]; simp [St.log]
  have H := Lib.hid h; clear h
  rw [hl] at ho2
  have HL := Lib.hid hl; clear hl
  have HS := Lib.hid hsl
  have hsn : s.sure.length ≤ n := by omega
  generalize hq : s.sure.length = q at *
  have HQ := Lib.hid hq; clear hq
  clear hsl
  have hc := own_cap H.out.log
  simp at hc
  obtain ⟨hc1, hc2⟩ := hc
  have b1 : (0 : Int) ≤ (q : Int) + max 0 (min k ((n : Int) - q)) := by omega
  have b2 : (q : Int) + max 0 (min k ((n : Int) - q)) ≤ (c : Int) := by omega
  have b3 : (q : Int) + max 0 (min k ((n : Int) - q)) ≤ 9223372036854775807 := by omega
  go_enter Try.func21, Try.ntmps21
  go_wp2_with fail
  go_region
  go_wp2_with fail
  go_end0
  obtain ⟨e, he⟩ : ∃ e : Nat, (q : Int) + max 0 (min k ((n : Int) - q)) = e := ⟨_, (Int.toNat_of_nonneg b1).symm⟩
  have e1 : (q : Int) + max 0 (min k ((n : Int) - q)) = (e : Int) := he
  have e2 : max (e : Int) 0 = (e : Int) := by omega
  rw [e1, e2, Int.toNat_natCast]
  have hs := HS.out
  have hq := HQ.out
  refine ⟨rfl, H.out.crash (e := e) ?_⟩
  omega
end Go.Proofs.Ytkcehoejcklmfaa.K
