/- wal.Scan. -/
import Derived.Test.YtkcehoejcklmfaaWalScan
namespace Go.Proofs.Ytkcehoejcklmfaa.L
open Go.RowKit Go.Shelf O K

attribute [local go_sem] Oper.semAt_some

theorem infoRows : (Try.prog.info? 31).map (fun i => (i.zero, i.size, i.bytes)) = some (some (.slice none 0 0), 1, 24) := by kernel_rfl
/-- What Scan returns. -/
def RetScan (l : List UInt8) (g : Nat) (w : World) (e : Ending) (w' : World) : Prop :=
  ∃ A n c xs, e = .returned (.tuple #[.slice A n c, .int .i64 (((scanFrom l g 0).2 : Nat) : Int)]) ∧ w'.ownsRow w.heap.size 31 1 (.slice A n c) n xs ∧ Reps (SlU w') (scanFrom l g 0).1 xs ∧ Below w.heap.size w w'

set_option maxRecDepth 100000 in
theorem scan_end {w : World} {A : Option Addr} {m c g : Nat} {l : List UInt8} {ys : List It} {W : World} (h : ScanI w A m c g ys W) {A' : Option Addr} {c' : Nat} {xs : List Value} {z6 z7 z8 z9 z10 z11 z12 z13 z14 z15 z16 z17 z18 z19 z20 z0 z1 z2 z3 : Value}
    (hv : Boxed W w.heap.size 62 (.slice A' ys.length c')) (hrow : W.ownsRow (w.heap.size + 4) 31 1 (.slice A' ys.length c') ys.length xs) (hreps : Reps (SlU W) (ys.map (·.2)) xs) (hsc : scanFrom l g 0 = (ys.map (·.2), (lastN ys).toNat)) (hl0 : 0 ≤ lastN ys) {D : Nat} (hD : w.heap.size + 4 ≤ D)
    (hK : ((W.setCell ⟨w.heap.size, 0, none⟩ (.slice A' ys.length c')).setCell ⟨w.heap.size + 1, 0, none⟩ (.int .i64 (lastN ys))).drew.heap[D]? = some (.deferred (some []))) :
    LeavesInM Fence.wide 5 Try.prog Try.f41 #[z0, z1, z2, z3, .pointer (some ⟨w.heap.size, 0, none⟩), .pointer (some ⟨w.heap.size + 1, 0, none⟩), z6, z7, z8, z9, z10, z11, z12, z13, z14, z15, z16, z17, z18, z19, z20] (RetScan l g w) [] FrameMode.returning
      (((W.setCell ⟨w.heap.size, 0, none⟩ (.slice A' ys.length c')).setCell ⟨w.heap.size + 1, 0, none⟩ (.int .i64 (lastN ys))).drew.putObj D (.deferred none)) := by
  have hv4 := hv.set (.slice A' ys.length c')
  have hn4 : Boxed (W.setCell ⟨w.heap.size, 0, none⟩ (.slice A' ys.length c')) (w.heap.size + 1) 3 (.int .i64 (lastN ys)) := (Below.heap_setCell _ _ _ _ (by simp)).trans h.r5
  have hv5 : Boxed ((W.setCell ⟨w.heap.size, 0, none⟩ (.slice A' ys.length c')).setCell ⟨w.heap.size + 1, 0, none⟩ (.int .i64 (lastN ys))) w.heap.size 62 (.slice A' ys.length c') := (Below.heap_setCell _ _ _ _ (by simp)).trans hv4
  have hn5 := hn4.set (.int .i64 (lastN ys))
  have ku := (KeepU.setBox hv (by decide) (.slice A' ys.length c')).trans (KeepU.setBox hn4 (by decide) (.int .i64 (lastN ys)))
  have hr5 := ownsRow_setCell_below (ownsRow_setCell_below hrow (a := ⟨w.heap.size, 0, none⟩) (by simp only; omega) (.slice A' ys.length c')) (a := ⟨w.heap.size + 1, 0, none⟩) (by simp only; omega) (.int .i64 (lastN ys))
  have b5 : Below w.heap.size w ((W.setCell ⟨w.heap.size, 0, none⟩ (.slice A' ys.length c')).setCell ⟨w.heap.size + 1, 0, none⟩ (.int .i64 (lastN ys))) := (h.below.setCell (by simp) _).setCell (by simp) _
  generalize (W.setCell ⟨w.heap.size, 0, none⟩ (.slice A' ys.length c')).setCell ⟨w.heap.size + 1, 0, none⟩ (.int .i64 (lastN ys)) = W5 at *
  have hv6 : Boxed (W5.drew.putObj D (.deferred none)) w.heap.size 62 (.slice A' ys.length c') := (World.putObj_heap_other (by omega)).trans hv5
  have hn6 : Boxed (W5.drew.putObj D (.deferred none)) (w.heap.size + 1) 3 (.int .i64 (lastN ys)) := (World.putObj_heap_other (by omega)).trans hn5
  have k6 : KeepU W5 (W5.drew.putObj D (.deferred none)) := (KeepU.of_below (Below.refl _ W5).drew).trans (KeepU.of_grownBy (grownBy_putObj' _ D _) (fun r e cs fr hh => by injection e with e; subst e; rw [hK] at hh; cases hh))
  have r6 : (W5.drew.putObj D (.deferred none)).ownsRow (w.heap.size + 4) 31 1 (.slice A' ys.length c') ys.length xs := ownsRow_putObj hr5.drew _ hK rfl
  have b6 : Below w.heap.size w (W5.drew.putObj D (.deferred none)) := b5.drew.trans (belowK_b (w := w) (Nat.le_refl _) W5.drew D _ _ (by omega) hK rfl rfl)
  have c6 := hv6.cell
  have d6 := hn6.cell
  generalize W5.drew.putObj D (.deferred none) = W6 at *
  refine ⟨.tuple #[.slice A' ys.length c', .int .i64 (lastN ys)], by simp [results, Try.results41, go_sem, c6, d6], _, _, _, xs, ?_, own_more r6 (by omega), ?_, b6⟩
  · rw [hsc]
    simp only [Int.toNat_of_nonneg hl0]
  · rw [hsc]
    exact hreps.imp (SlU.keep (ku.trans k6))

set_option maxRecDepth 100000 in
set_option maxHeartbeats 4000000 in
theorem scan_in (A : Option Addr) (m c g : Nat) (l : List UInt8) (w : World) (h : Rd w w.heap.size 1 A m (bv l)) (hmc : m ≤ c) (hm : m ≤ 10000000) (hc : c ≤ 9223372036854775807) (hg : g < 4294967296) :
    CallsIn Fence.wide 5 Try.prog 41 #[.slice A m c, .int .u32 g] w (RetScan l g w) := by
  have hll : l.length = m := by have := h.1; simp at this; omega
  obtain ⟨i0, hi, hz0, hz1, hz2⟩ := info_parts infoRows
  refine callsIn_of_wp_marks Try.func41 rfl trivial ?_ rfl
  simp only [Try.ntmps41, List.size_toArray, List.length_cons, List.length_nil, Nat.reduceAdd, Nat.reduceSub, Array.replicate_succ, Array.replicate_zero, List.push_toArray, List.append_toArray, List.nil_append, List.cons_append]
  gi_wp2
  refine ⟨trivial, ?_⟩
  refine (frames_in 4 A m c g _).mono ?_; rintro e w' ⟨rfl, rfl⟩
  gi_wp2
  obtain ⟨W0, hW0⟩ : ∃ W0, (((w.alloc (.cells #[.slice none 0 0] 62)).alloc (.cells #[.int .i64 0] 3)).alloc (.cells #[.slice A m c] 31)).alloc (.cells #[.int .u32 (g : Int)] 52) = W0 := ⟨_, rfl⟩
  rw [hW0]
  have hB0 : Below w.heap.size w W0 := by rw [← hW0]; exact ((((Below.refl _ w).alloc (Nat.le_refl _) _).alloc (by simp) _).alloc (by simp <;> omega) _).alloc (by simp <;> omega) _
  have hsz : W0.heap.size = w.heap.size + 4 := by rw [← hW0]; simp
  have q4 : Boxed W0 w.heap.size 62 (.slice none 0 0) := by rw [← hW0]; exact (((Boxed.new w _ _).alloc _).alloc _).alloc _
  have q5 : Boxed W0 (w.heap.size + 1) 3 (.int .i64 0) := by
    have := ((Boxed.new (w.alloc (.cells #[.slice none 0 0] 62)) 3 (.int .i64 0)).alloc (.cells #[.slice A m c] 31)).alloc (.cells #[.int .u32 (g : Int)] 52)
    rw [hW0] at this
    simpa using this
  have q2 : Boxed W0 (w.heap.size + 2) 31 (.slice A m c) := by
    have := (Boxed.new ((w.alloc (.cells #[.slice none 0 0] 62)).alloc (.cells #[.int .i64 0] 3)) 31 (.slice A m c)).alloc (.cells #[.int .u32 (g : Int)] 52)
    rw [hW0] at this
    simpa using this
  have q3 : Boxed W0 (w.heap.size + 3) 52 (.int .u32 g) := by
    have := Boxed.new (((w.alloc (.cells #[.slice none 0 0] 62)).alloc (.cells #[.int .i64 0] 3)).alloc (.cells #[.slice A m c] 31)) 52 (.int .u32 g)
    rw [hW0] at this
    simpa using this
  have HW0 := Lib.hid hW0; clear hW0
  have hI0 : ScanI w A m c g [] W0 := ⟨⟨none, 0, [], q4, World.ownsRow_nil _ _ _ _, rfl⟩, q5, q2, q3, hB0⟩
  have hown : OwnFrom W0.heap.size (ScanI w A m c g) := by rw [hsz]; exact ScanI.own w A m c g
  refine wpIn_rangeFunc_ownF rfl (by omega) (gf := 86) (lb := #[.pointer (some ⟨w.heap.size + 1 + 1, 0, none⟩), .pointer (some ⟨w.heap.size + 1 + 1 + 1, 0, none⟩)]) rfl trivial (enters_of Try.func86 (by kernel_rfl) rfl)
    (frames_stops 4 (by omega) (w.heap.size + 1 + 1) (w.heap.size + 1 + 1 + 1) w.heap.size g A m c l hmc (by omega) hc hg W0 q2 q3 (h.below hB0) hB0.size) Kp.trans ?keepb (Below.refl _ _) (fun _ => rfl)
    (ScanI w A m c g) (fun _ _ _ => False) hown (fun _ _ _ _ _ hs _ _ => hs) hI0
    (fun x => { tmps := #[.slice A m c, .int .u32 g, undef, undef, .pointer (some ⟨w.heap.size, 0, none⟩), .pointer (some ⟨w.heap.size + 1, 0, none⟩), .int .i64 x.1, .string ⟨x.2.toArray⟩, .slice A m c, .int .u32 g, .func (.func 86) #[] #[.pointer (some ⟨w.heap.size + 1 + 1, 0, none⟩), .pointer (some ⟨w.heap.size + 1 + 1 + 1, 0, none⟩)], .int .i64 x.1, .string ⟨x.2.toArray⟩, undef, undef, undef, undef, undef, undef, undef, undef], defers := [] }) ?assign ?body ?done ?stop
  case keepb =>
    intro W lb o o' hl hlo hcl hwk
    have hb := belowK_b (n₀ := w.heap.size) (w := W0) hB0.size W lb o o' hl hlo hcl hwk
    exact ⟨hb, World.putObj_heap_other (by omega), World.putObj_heap_other (by omega)⟩
  case assign =>
    intro lp x W K hK
    gi_wp2
    exact hK
  case body =>
    rintro lp pre x W hI hlt
    obtain ⟨A', c', xs, hv, hrow, hreps⟩ := hI.r4
    have c4 := hv.cell
    have hbw := hI.below.size
    have l3 := hI.bg.lt
    have HhI := Lib.hid hI; clear hI
    have Hhv := Lib.hid hv; clear hv
    have Hhrow := Lib.hid hrow; clear hrow
    have Hhreps := Lib.hid hreps; clear hreps
    gi_wp2_with (first | (refine wpListIn_bytesU rfl (.tmp 14) rfl Try.underlying9 Try.underlying31 Try.underlying5 x.2 rfl ?_; intro A3 n3 c3 w3 hs3 b3 k3; have hv3 : Boxed w3 w.heap.size 62 (.slice A' pre.length c') := (b3.block _ Hhv.out.lt).trans Hhv.out; have hsz3 := b3.size; have HS3 := Lib.hid hs3; clear hs3; have HB3 := Lib.hid b3; clear b3; have HV3 := Lib.hid hv3; clear hv3) | (gi_at_builtin; refine wpListIn_append_own _ rfl _ _ 62 rfl (w.heap.size + 4) 31 i0 (.slice none 0 0) 1 24 Try.underlying62 hi hz0 hz1 hz2 rfl (by decide) _ _ _ rfl ((own_below Hhrow.out HB3.out).alloc _) ⟨w3.heap.size, 0, none⟩ 1 1 [.slice A3 n3 c3] rfl rfl (cell_one_new _ _ _) (by simp [Value.oneCell']) (by unfold maxLen; omega) (by omega) (by simp; omega) ?_; intro v' w4 hown4 hgrow4 hnn; obtain ⟨g', cap', rfl⟩ := ownsRow_succ hown4; clear hnn; have HO4 := Lib.hid hown4; clear hown4; have HG4 := Lib.hid hgrow4; clear hgrow4; have hbx := boxes4 HhI.out Hhv.out Hhrow.out HB3.out HG4.out; have c44 := hbx.1.cell; have f44 := hbx.1.frozen; have c45 := hbx.2.cell; have f45 := hbx.2.frozen; clear hbx))
    exact HhI.out.step Hhv.out Hhrow.out Hhreps.out HB3.out k3 HS3.out HO4.out HG4.out
  case done =>
    rintro D ys W hD ⟨hsc, hl0⟩ hI hK
    obtain ⟨A', c', xs, hv, hrow, hreps⟩ := hI.r4
    have c4 := hv.cell
    have f4 := hv.frozen
    have c5 := hI.r5.cell
    have f5 := hI.r5.frozen
    have HhI := Lib.hid hI; clear hI
    have Hhv := Lib.hid hv; clear hv
    have Hhrow := Lib.hid hrow; clear hrow
    have Hhreps := Lib.hid hreps; clear hreps
    have Hhsc := Lib.hid hsc; clear hsc
    have HhK := Lib.hid hK; clear hK
    gi_wp2
    gi_region
    gi_wp2
    have ko : KeepsOthers W ((W.setCell ⟨w.heap.size, 0, none⟩ (.slice A' ys.length c')).setCell ⟨w.heap.size + 1, 0, none⟩ (.int .i64 (lastN ys))).drew := ((KeepsOthers.setCell _ _ _).trans (KeepsOthers.setCell _ _ _)).trans (KeepsOthers.drew _)
    have hK5 := ko.same D _ HhK.out rfl
    refine ⟨by simp, .inl ⟨_, _, rfl, run_takeDeferred hK5, ?_⟩⟩
    exact scan_end HhI.out Hhv.out Hhrow.out Hhreps.out Hhsc.out hl0 (by omega) hK5
  case stop =>
    rintro D c pre W _ _ h _
    exact h.elim
theorem scan_any (A : Option Addr) (m c g : Nat) (l : List UInt8) (w : World) (h : Rd w w.heap.size 1 A m (bv l)) (hmc : m ≤ c) (hm : m ≤ 10000000) (hc : c ≤ 9223372036854775807) (hg : g < 4294967296) :
    Calls Try.prog 41 #[.slice A m c, .int .u32 g] w (RetScan l g w) := callsIn_wide.1 (scan_in A m c g l w h hmc hm hc hg)
end Go.Proofs.Ytkcehoejcklmfaa.L
