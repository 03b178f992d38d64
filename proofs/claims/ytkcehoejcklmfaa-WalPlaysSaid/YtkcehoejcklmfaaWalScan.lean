/- wal.frames and wal.Scan: a range over a function. -/
import Derived.Test.YtkcehoejcklmfaaWalFns
import Derived.Test.YtkcehoejcklmfaaLaws2
import Derived.Test.YtkcehoejcklmfaaReps
import Derived.Test.YtkcehoejcklmfaaDiskMem
import Derived.RangeFuncNested
import Derived.RangeFuncBound
import Derived.RangeFuncCalls
import Derived.RangeFuncLeaves
import Derived.RangeFuncBox
import Derived.Shelf.Abstract
import Derived.Shelf.RegionOpen
import Derived.WalkKit
import Derived.OwnWalkIn
import Derived.TacticsInMore
import Derived.LoopNIn
import Derived.LoopIn
import Derived.Maps.AppendAt
namespace Go.Proofs.Ytkcehoejcklmfaa.L
open Go.RowKit Go.Shelf O K

attribute [local go_sem] Oper.semAt_some

/-! ### rows of bytes -/
/-- A slice of bytes in a block of bytes. -/
def SlU (W : World) (s : List UInt8) (vs : List Value) : Prop := ∃ A m c, vs = [.slice A m c] ∧ Rd W W.heap.size 1 A m (bv s) ∧ m ≤ c ∧ (0 < m → ∀ b, blkOf A = some b → ∃ cs fr, W.heap[b]? = some (.cells cs 5 fr))
/-- The blocks of bytes lie as they lay. -/
structure KeepU (W W' : World) : Prop where
  size : W.heap.size ≤ W'.heap.size
  same : ∀ (b : Nat) (cs : Array Value) (fr : Nat × Nat), W.heap[b]? = some (.cells cs 5 fr) → W'.heap[b]? = some (.cells cs 5 fr)
theorem KeepU.refl (W : World) : KeepU W W := ⟨Nat.le_refl _, fun _ _ _ h => h⟩
theorem KeepU.trans {A B C : World} (h : KeepU A B) (k : KeepU B C) : KeepU A C := ⟨Nat.le_trans h.size k.size, fun b cs fr e => k.same b cs fr (h.same b cs fr e)⟩
theorem KeepU.of_below {W W' : World} (h : Below W.heap.size W W') : KeepU W W' := ⟨h.size, fun b _ _ e => (h.block b (lt_of_block e)).trans e⟩
theorem KeepU.of_grownBy {W W' : World} {row : Option Nat} (h : W.grownBy W' row) (hr : ∀ r, row = some r → ∀ (cs : Array Value) (fr : Nat × Nat), W.heap[r]? ≠ some (.cells cs 5 fr)) : KeepU W W' :=
  ⟨h.size, fun b cs fr e => (h.block b (lt_of_block e) (fun er => hr b er.symm cs fr e)).trans e⟩
theorem KeepU.setBox {W : World} {B : Nat} {t : TypeId} {v : Value} (hB : Boxed W B t v) (ht : t ≠ 5) (u : Value) : KeepU W (W.setCell ⟨B, 0, none⟩ u) :=
  ⟨by simp [World.setCell], fun b cs fr e => by
    refine (Below.heap_setCell _ _ _ _ ?_).trans e
    rintro rfl
    have h2 : W.heap[b]? = some (.cells #[v] t (0, 0)) := hB
    rw [h2] at e
    injection e with e
    injection e with _ e _
    exact ht e⟩
theorem SlU.keep {W W' : World} (h : KeepU W W') : ∀ (s : List UInt8) vs, SlU W s vs → SlU W' s vs := by
  rintro s vs ⟨A, m, c, e, hr, hc, ht⟩
  refine ⟨A, m, c, e, ⟨hr.1, fun hp => ?_⟩, hc, fun hm b hb => ?_⟩
  · have hl : s.length = m := by have := hr.1; simp at this; omega
    obtain ⟨b, off, ea, hlt, hcell⟩ := hr.2 hp
    obtain ⟨cs, fr, hblk⟩ := ht (by simp at hp; omega) b (by rw [ea]; rfl)
    have hb' := (h.same b cs fr hblk).trans hblk.symm
    exact ⟨b, off, ea, Nat.lt_of_lt_of_le hlt h.size, fun j hj => (World.cell?_of_block (a := ⟨b, off + j, none⟩) hb').trans (hcell j hj)⟩
  · obtain ⟨cs, fr, hblk⟩ := ht hm b hb
    exact ⟨cs, fr, h.same b cs fr hblk⟩
theorem SlU.size {W : World} : ∀ (s : List UInt8) vs, SlU W s vs → vs.length = 1 := by rintro s vs ⟨A, m, c, rfl, _⟩; rfl
theorem SlU.one {W : World} : ∀ (s : List UInt8) vs, SlU W s vs → ∀ u ∈ vs, u.oneCell' = true := by
  rintro s vs ⟨A, m, c, rfl, _⟩ u hu
  simp at hu
  subst hu
  rfl
/-- '[]byte(s)' inside a fence. -/
theorem wpListIn_bytesU {F : Fence} {n : Nat} {P : Program} {w : World} {ops : Array Oper} {rest : List Oper} {o : Oper} {a : Act} {Q : Exit → Act → World → Prop} (hgd : o.guard = none) {src dst : TypeId} (x : Operand)
    (ho : o.op = .convert src dst x) (hs : P.underlying src = some .string) (hd : P.underlying dst = some (.slice 5)) (he : P.underlying 5 = some (.int .u8)) (l : List UInt8) (hx : a.eval x = .string ⟨l.toArray⟩)
    (h : ∀ A n' c w', SlU w' l [.slice A n' c] → Below w.heap.size w w' → KeepsOthers w w' → wpListIn F n P ops Q rest (a.put o.dst (.slice A n' c)) w') : wpListIn F n P ops Q (o :: rest) a w := by
  refine wpListIn_plain hgd fun K hK => ?_
  have hrun := run_bytes_of_string (P := P) w src dst 5 ⟨l.toArray⟩ hs hd he
  have hsz : (ByteArray.mk l.toArray).size = l.length := by simp [ByteArray.size]
  rw [hsz] at hrun
  unfold Oper.wpIn
  refine ⟨?_, ?_⟩
  · simp [Oper.about, ho]
  · rw [Oper.semAt_plain F _ _ (by rw [ho]; intro c hc'; cases hc')]
    simp only [execOp, ho, hx, Sem.run_bind, hrun, Result.andThen_ok, Sem.run_pure]
    refine hK _ _ (h _ _ _ _ ⟨_, _, _, rfl, ⟨by simp, fun hp => ⟨w.heap.size, 0, rfl, by simp, fun j hj => ?_⟩⟩, grownCap_ge w l.length 0 5, fun _ b hb => ?_⟩ ?_ ?_)
    · have hj' : j < l.length := by simpa using hj
      rw [Nat.zero_add, cell_of_row _ w.heap.size j _ 5 _ (heap_alloc_new w.drew _), bv_get l j hj']
      simp [bytesRow, Array.getElem?_append, hj']
    · simp [blkOf] at hb
      subst hb
      exact ⟨_, _, heap_alloc_new w.drew _⟩
    · exact ((Below.refl _ _).drew).alloc (Nat.le_refl _) _
    · exact (KeepsOthers.drew w).trans (KeepsOthers.alloc _ _)

/-! ### the iterator -/
abbrev It := Int × List UInt8
def lastN (ys : List It) : Int := match ys.getLast? with | none => 0 | some p => p.1
theorem lastN_snoc (ys : List It) (x : It) : lastN (ys ++ [x]) = x.1 := by simp [lastN]
/-- So far these have come, the next one is looked for at i. -/
def GoesOn (l : List UInt8) (g : Nat) (pre : List It) (i : Nat) : Prop :=
  lastN pre = (i : Int) ∧ scanFrom l g 0 = (pre.map (·.2) ++ (scanFrom l g i).1, (scanFrom l g i).2) ∧ i ≤ l.length ∧ pre.length ≤ i
theorem GoesOn.start (l : List UInt8) (g : Nat) : GoesOn l g [] 0 := ⟨rfl, by simp, Nat.zero_le _, Nat.le_refl _⟩
theorem GoesOn.snoc {l : List UInt8} {g i k : Nat} {s : List UInt8} {pre : List It} (hl : l.length < 1000000000) (h : GoesOn l g pre i) (hf : frameAt l (i : Int) = some (g, s, k)) : GoesOn l g (pre ++ [((i : Int) + (k : Int), s)]) (i + k) := by
  obtain ⟨h1, h2, h3, h4⟩ := h
  obtain ⟨_, f2, f3, _⟩ := (frameAt_some hl).1 hf
  have h8 := frameL_pos g s
  refine ⟨by rw [lastN_snoc]; simp, ?_, f2, by simp; omega⟩
  rw [h2, scan_yes hl hf]
  simp
theorem GoesOn.done {l : List UInt8} {g i : Nat} {pre : List It} (h : GoesOn l g pre i) (hf : ∀ s k, frameAt l (i : Int) ≠ some (g, s, k)) : scanFrom l g 0 = (pre.map (·.2), (lastN pre).toNat) := by
  rw [h.2.1, scan_no hf, h.1]
  simp
/-- What a round keeps: all below base, and the iterator's two boxes. -/
def Kp (base Bl Bg : Nat) (W W' : World) : Prop := Below base W W' ∧ W'.heap[Bl]? = W.heap[Bl]? ∧ W'.heap[Bg]? = W.heap[Bg]?
theorem Kp.trans {base Bl Bg : Nat} {A B C : World} (h : Kp base Bl Bg A B) (k : Kp base Bl Bg B C) : Kp base Bl Bg A C := ⟨h.1.trans k.1, k.2.1.trans h.2.1, k.2.2.trans h.2.2⟩
theorem Kp.refl {base Bl Bg : Nat} {A : World} : Kp base Bl Bg A A := ⟨Below.refl _ _, rfl, rfl⟩

set_option maxRecDepth 100000 in
set_option maxHeartbeats 4000000 in
theorem frames1_in (n : Nat) (hn : 2 ≤ n) (lp Bl Bg base g : Nat) (A : Option Addr) (m c : Nat) (l : List UInt8) (hmc : m ≤ c) (hm : m ≤ 100000000) (hc : c ≤ 9223372036854775807) (hg : g < 4294967296) (J Jx : List It → World → Prop)
    (hY : ∀ pre x W, J pre W → pre.length < l.length + 1 → YieldAt Fence.wide (n - 1) Try.prog lp #[.int .i64 x.1, .string ⟨x.2.toArray⟩] W fun e W' =>
      (e = .returned (.bool true) ∧ J (pre ++ [x]) W' ∧ Kp base Bl Bg W W') ∨ (e = .returned (.bool false) ∧ Jx (pre ++ [x]) W'))
    (W : World) (hBl : Boxed W Bl 31 (.slice A m c)) (hBg : Boxed W Bg 52 (.int .u32 g)) (hr : Rd W base 1 A m (bv l)) (hbs : base ≤ W.heap.size) (h0 : J [] W) :
    CallsIn Fence.wide n Try.prog 86 #[.func (.yield lp) #[] #[], .pointer (some ⟨Bl, 0, none⟩), .pointer (some ⟨Bg, 0, none⟩)] W fun e W' => (∃ v, e = .returned v) ∧
      ((∃ ys, scanFrom l g 0 = (ys.map (·.2), (lastN ys).toNat) ∧ 0 ≤ lastN ys ∧ J ys W') ∨ (∃ pre, True ∧ Jx pre W')) := by
  have hll : l.length = m := by have := hr.1; simp at this; omega
  refine callsIn_of_wp Try.func86 rfl trivial ?_ rfl
  simp only [Try.ntmps86, List.size_toArray, List.length_cons, List.length_nil, Nat.reduceAdd, Nat.reduceSub, Array.replicate_succ, Array.replicate_zero, List.push_toArray, List.append_toArray, List.nil_append, List.cons_append]
  gi_wp2
  gi_loopw [4] (fun t wr => ∃ (pre : List It) (i : Nat), t = .int .i64 (i : Int) ∧ GoesOn l g pre i ∧ J pre wr ∧ Kp base Bl Bg W wr) (fun t _ => l.length + 1 - (intOf t).toNat)
  case atStart => exact ⟨[], 0, rfl, GoesOn.start l g, h0, Kp.refl⟩
  case round =>
    obtain ⟨pre, i, rfl, hgo, hJs, hkp⟩ := hrel
    have hil := hgo.2.2.1
    have hpl := hgo.2.2.2
    have cl := Boxed.cell (hkp.2.1.trans hBl : Boxed wr Bl _ _)
    have cg := Boxed.cell (hkp.2.2.trans hBg : Boxed wr Bg _ _)
    have G := frameAt_any A m c i l wr ((hr.below hkp.1).more (Nat.le_trans hbs hkp.1.size)) hmc hm hc (by omega)
    have hbel := hkp.1
    cases hf : frameAt l (i : Int) with
    | none =>
      rw [hf] at G
      simp only [resF] at G
      have hd := hgo.done (fun s k e => by rw [hf] at e; cases e)
      have hlast : 0 ≤ lastN pre := by rw [hgo.1]; omega
      clear hY
      have HG := Lib.hid G; clear G
      have Hhd := Lib.hid hd; clear hd
      have Hhf := Lib.hid hf; clear hf
      have Hhgo := Lib.hid hgo; clear hgo
      have Hhkp := Lib.hid hkp; clear hkp
      gi_wp2
      refine ⟨trivial, fun _ => by omega, ?_⟩
      refine (callsIn_wide.2 HG.out).mono ?_; rintro e w' ⟨rfl, rfl⟩
      gi_wp2
      refine ⟨fun _ h => (by cases h), ?_⟩
      gi_wp2
      refine bodyPost_ret (results_none rfl _ _ _) rfl ?_
      exact ⟨⟨_, rfl⟩, .inl ⟨pre, Hhd.out, hlast, hJs⟩⟩
    | some q =>
      obtain ⟨g', s, k⟩ := q
      rw [hf] at G
      simp only [resF] at G
      by_cases hgg : g' = g
      · subst hgg
        have hsn := hgo.snoc (by omega) hf
        have hk8 := ((frameAt_some (by omega)).1 hf).2.2.1
        have h8 := frameL_pos g' s
        obtain ⟨fn, tmps, assign, body, hy, hR⟩ := hY pre ((i : Int) + (k : Int), s) wr hJs (by omega)
        dsimp only at hy
        have hkl : i + k ≤ l.length := hsn.2.2.1
        have HG := Lib.hid G; clear G
        have Hhf := Lib.hid hf; clear hf
        have Hhgo := Lib.hid hgo; clear hgo
        have Hhsn := Lib.hid hsn; clear hsn
        have Hhk8 := Lib.hid hk8; clear hk8
        have Hhkp := Lib.hid hkp; clear hkp
        gi_wp2
        refine ⟨trivial, fun _ => by omega, ?_⟩
        refine (callsIn_wide.2 HG.out).mono ?_; rintro e w' ⟨rfl, rfl⟩
        gi_wp2
        refine ⟨fun _ => by omega, ?_⟩
        refine hR.mono ?_
        rintro e W3 (⟨rfl, hJ3, hk3⟩ | ⟨rfl, hJx3⟩)
        · gi_wp2
          go_roundw
          case rel => exact ⟨pre ++ [((i : Int) + (k : Int), s)], i + k, by go_num, Hhsn.out, hJ3, Hhkp.out.trans hk3⟩
          case measure => have := Hhk8.out; simp [intOf]; omega
        · gi_wp2
          refine bodyPost_ret (results_none rfl _ _ _) rfl ?_
          exact ⟨⟨_, rfl⟩, .inr ⟨_, trivial, hJx3⟩⟩
      · have hd := hgo.done (fun s k e => by rw [hf] at e; injection e with e; injection e with e; exact hgg e)
        have hne : ((g' : Int) != (g : Int)) = true := by simp; omega
        have hlast : 0 ≤ lastN pre := by rw [hgo.1]; omega
        clear hY
        have HG := Lib.hid G; clear G
        have Hhd := Lib.hid hd; clear hd
        have Hhf := Lib.hid hf; clear hf
        have Hhgo := Lib.hid hgo; clear hgo
        have Hhkp := Lib.hid hkp; clear hkp
        gi_wp2
        refine ⟨trivial, fun _ => by omega, ?_⟩
        refine (callsIn_wide.2 HG.out).mono ?_; rintro e w' ⟨rfl, rfl⟩
        gi_wp2
        refine ⟨fun _ h => (by cases h), ?_⟩
        gi_wp2
        refine bodyPost_ret (results_none rfl _ _ _) rfl ?_
        exact ⟨⟨_, rfl⟩, .inl ⟨pre, Hhd.out, hlast, hJs⟩⟩

set_option maxHeartbeats 1000000 in
theorem frames_in (n : Nat) (A : Option Addr) (m c g : Nat) (w : World) :
    CallsIn Fence.wide n Try.prog 74 #[.slice A m c, .int .u32 g] w fun e w' => e = .returned (.func (.func 86) #[] #[.pointer (some ⟨w.heap.size, 0, none⟩), .pointer (some ⟨w.heap.size + 1, 0, none⟩)]) ∧
      w' = (w.alloc (.cells #[.slice A m c] 31)).alloc (.cells #[.int .u32 g] 52) := by
  refine callsIn_of_wp Try.func74 rfl trivial ?_ rfl
  simp only [Try.ntmps74, List.size_toArray, List.length_cons, List.length_nil, Nat.reduceAdd, Nat.reduceSub, Array.replicate_succ, Array.replicate_zero, List.push_toArray, List.append_toArray, List.nil_append, List.cons_append]
  gi_wp2
  go_ret
  exact ⟨rfl, rfl⟩
theorem frames_stops (n : Nat) (hn : 2 ≤ n) (Bl Bg base g : Nat) (A : Option Addr) (m c : Nat) (l : List UInt8) (hmc : m ≤ c) (hm : m ≤ 100000000) (hc : c ≤ 9223372036854775807) (hg : g < 4294967296) (w : World) (hBl : Boxed w Bl 31 (.slice A m c)) (hBg : Boxed w Bg 52 (.int .u32 g)) (hr : Rd w base 1 A m (bv l)) (hbs : base ≤ w.heap.size) :
    SeqStopsK Fence.wide n Try.prog 86 #[.pointer (some ⟨Bl, 0, none⟩), .pointer (some ⟨Bg, 0, none⟩)] (fun x : It => #[Value.int .i64 x.1, .string ⟨x.2.toArray⟩]) (Kp base Bl Bg) (fun ys => scanFrom l g 0 = (ys.map (·.2), (lastN ys).toNat) ∧ 0 ≤ lastN ys) (fun _ => True) (l.length + 1) w := fun lp J Jx W hW _ _ hY h0 => by
  refine (frames1_in n hn lp Bl Bg base g A m c l hmc hm hc hg J Jx hY W ((hW.block Bl hBl.lt).trans hBl) ((hW.block Bg hBg.lt).trans hBg) (hr.below (hW.mono hbs)) (Nat.le_trans hbs hW.size) h0).mono ?_
  rintro e W' ⟨he, ⟨ys, h1, h2, hj⟩ | ⟨pre, _, hj⟩⟩
  · exact ⟨he, .inl ⟨ys, ⟨h1, h2⟩, hj⟩⟩
  · exact ⟨he, .inr ⟨pre, trivial, hj⟩⟩

/-! ### the caller -/
structure ScanI (w : World) (A : Option Addr) (m c g : Nat) (pre : List It) (W : World) : Prop where
  r4 : ∃ A' c' xs, Boxed W w.heap.size 62 (.slice A' pre.length c') ∧ W.ownsRow (w.heap.size + 4) 31 1 (.slice A' pre.length c') pre.length xs ∧ Reps (SlU W) (pre.map (·.2)) xs
  r5 : Boxed W (w.heap.size + 1) 3 (.int .i64 (lastN pre))
  bl : Boxed W (w.heap.size + 2) 31 (.slice A m c)
  bg : Boxed W (w.heap.size + 3) 52 (.int .u32 g)
  below : Below w.heap.size w W
theorem ownsRow_cells {W : World} {base e size n : Nat} {v : Value} {xs : List Value} (h : W.ownsRow base e size v n xs) {q : Nat} (hq : v.ownBlock = some q) : ∃ cur, W.heap[q]? = some (.cells cur e (0, 0)) := by
  rcases h.2 with ⟨rfl, _⟩ | ⟨g, cap, cur, rfl, _, hg, _⟩
  · simp [Value.ownBlock] at hq
  · simp [Value.ownBlock] at hq
    subst hq
    exact ⟨cur, hg⟩
theorem ScanI.own (w : World) (A : Option Addr) (m c g : Nat) : OwnFrom (w.heap.size + 4) (ScanI w A m c g) := by
  intro pre W W' row h hg hr
  have ne : ∀ (b : Nat) (cs : Array Value) (t : TypeId) (fr : Nat × Nat), W.heap[b]? = some (.cells cs t fr) → some b ≠ row := by
    rintro b cs t fr hb rfl
    obtain ⟨_, o, ho, hc⟩ := hr b rfl
    rw [hb] at ho
    cases ho
    cases hc
  have bk : ∀ {b t v}, Boxed W b t v → Boxed W' b t v := fun {b t v} hb => hb.kept hg (ne b _ _ _ hb)
  obtain ⟨A', c', xs, h1, h2, h3⟩ := h.r4
  refine ⟨⟨A', c', xs, bk h1, h2.kept hg ?_, h3.imp (SlU.keep (KeepU.of_grownBy hg (fun r e cs fr hh => ne r _ _ _ hh e.symm)))⟩, bk h.r5, bk h.bl, bk h.bg, ?_⟩
  · cases hq : (Value.slice A' pre.length c').ownBlock with
    | none => exact .inl rfl
    | some q =>
      obtain ⟨cur, hcur⟩ := ownsRow_cells h2 hq
      exact .inr (ne q _ _ _ hcur)
  · refine ⟨hg.os.trans h.below.os, hg.tape.trans h.below.tape, hg.output.trans h.below.output, Nat.le_trans h.below.size hg.size, fun k hk => ?_⟩
    have hlt : k < W.heap.size := Nat.lt_of_lt_of_le hk h.below.size
    rw [hg.block k hlt (fun e => by have := (hr k e.symm).1; omega)]
    exact h.below.block k hk
theorem ScanI.step {w : World} {A : Option Addr} {m c g : Nat} {pre : List It} {x : It} {W w3 w4 : World} (h : ScanI w A m c g pre W) {A' A3 : Option Addr} {c' n3 c3 g' cap' : Nat} {xs : List Value}
    (hv : Boxed W w.heap.size 62 (.slice A' pre.length c')) (hrow : W.ownsRow (w.heap.size + 4) 31 1 (.slice A' pre.length c') pre.length xs) (hreps : Reps (SlU W) (pre.map (·.2)) xs) (b3 : Below W.heap.size W w3) (k3 : KeepsOthers W w3) (hs3 : SlU w3 x.2 [.slice A3 n3 c3])
    (hown4 : w4.ownsRow (w.heap.size + 4) 31 1 (.slice (some ⟨g', 0, none⟩) (pre.length + 1) cap') (pre.length + 1) (xs ++ [.slice A3 n3 c3])) (hgrow4 : (w3.alloc (.cells #[.slice A3 n3 c3] 31)).grownBy w4 (Value.slice A' pre.length c').ownBlock) :
    KeepsOthers W ((w4.setCell ⟨w.heap.size, 0, none⟩ (.slice (some ⟨g', 0, none⟩) (pre.length + 1) cap')).setCell ⟨w.heap.size + 1, 0, none⟩ (.int .i64 x.1)) ∧
    Kp w.heap.size (w.heap.size + 2) (w.heap.size + 3) W ((w4.setCell ⟨w.heap.size, 0, none⟩ (.slice (some ⟨g', 0, none⟩) (pre.length + 1) cap')).setCell ⟨w.heap.size + 1, 0, none⟩ (.int .i64 x.1)) ∧
    ScanI w A m c g (pre ++ [x]) ((w4.setCell ⟨w.heap.size, 0, none⟩ (.slice (some ⟨g', 0, none⟩) (pre.length + 1) cap')).setCell ⟨w.heap.size + 1, 0, none⟩ (.int .i64 x.1)) := by
  have hrow3 := own_below hrow b3
  have ba : Below w3.heap.size w3 (w3.alloc (.cells #[.slice A3 n3 c3] 31)) := (Below.refl _ _).alloc (Nat.le_refl _) _
  have b3a := bthen b3 ba
  have hlow : ∀ k, k < w.heap.size + 4 → k < W.heap.size → w4.heap[k]? = W.heap[k]? := by
    intro k hk hkW
    rw [hgrow4.block k (Nat.lt_of_lt_of_le hkW b3a.size) (fun e => by have := (hrow.lt k e.symm).1; omega)]
    exact b3a.block k hkW
  have l5 := h.r5.lt
  have l2 := h.bl.lt
  have l3 := h.bg.lt
  have l4 := hv.lt
  have hv4 : Boxed w4 w.heap.size 62 (.slice A' pre.length c') := (hlow _ (by omega) l4).trans hv
  have hn4 : Boxed w4 (w.heap.size + 1) 3 (.int .i64 (lastN pre)) := (hlow _ (by omega) l5).trans h.r5
  have hl4 : Boxed w4 (w.heap.size + 2) 31 (.slice A m c) := (hlow _ (by omega) l2).trans h.bl
  have hg4 : Boxed w4 (w.heap.size + 3) 52 (.int .u32 g) := (hlow _ (by omega) l3).trans h.bg
  have set1 : ∀ {b t v u}, b ≠ w.heap.size → Boxed w4 b t v → Boxed (w4.setCell ⟨w.heap.size, 0, none⟩ u) b t v := fun {b t v u} hb hh => (Below.heap_setCell _ _ _ _ hb).trans hh
  have hv5 := hv4.set (.slice (some ⟨g', 0, none⟩) (pre.length + 1) cap')
  have hn5 := set1 (u := .slice (some ⟨g', 0, none⟩) (pre.length + 1) cap') (by omega) hn4
  have set2 : ∀ {b t v u}, b ≠ w.heap.size + 1 → Boxed (w4.setCell ⟨w.heap.size, 0, none⟩ (.slice (some ⟨g', 0, none⟩) (pre.length + 1) cap')) b t v → Boxed ((w4.setCell ⟨w.heap.size, 0, none⟩ (.slice (some ⟨g', 0, none⟩) (pre.length + 1) cap')).setCell ⟨w.heap.size + 1, 0, none⟩ u) b t v := fun {b t v u} hb hh => (Below.heap_setCell _ _ _ _ hb).trans hh
  have kg : KeepsOthers (w3.alloc (.cells #[.slice A3 n3 c3] 31)) w4 := KeepsOthers.of_grownBy hgrow4 fun j o ej hj => by
    obtain ⟨cur, hcur⟩ := ownsRow_cells hrow3 ej
    rw [ba.block j (lt_of_block hcur), hcur] at hj
    cases hj
    rfl
  have ku : KeepU (w3.alloc (.cells #[.slice A3 n3 c3] 31)) w4 := KeepU.of_grownBy hgrow4 fun r er cs fr hh => by
    obtain ⟨cur, hcur⟩ := ownsRow_cells hrow3 er
    rw [ba.block r (lt_of_block hcur), hcur] at hh
    injection hh with hh
    injection hh with _ hh _
    exact absurd hh (by decide)
  have ku4 : KeepU w3 w4 := (KeepU.of_below ba).trans ku
  have ku5 := (KeepU.setBox hv4 (by decide) (.slice (some ⟨g', 0, none⟩) (pre.length + 1) cap')).trans (KeepU.setBox hn5 (by decide) (.int .i64 x.1))
  have bel4 : Below w.heap.size W w4 := ⟨hgrow4.os.trans b3a.os, hgrow4.tape.trans b3a.tape, hgrow4.output.trans b3a.output, Nat.le_trans b3a.size hgrow4.size, fun k hk => hlow k (by omega) (by have := h.below.size; omega)⟩
  have bel5 : Below w.heap.size W ((w4.setCell ⟨w.heap.size, 0, none⟩ (.slice (some ⟨g', 0, none⟩) (pre.length + 1) cap')).setCell ⟨w.heap.size + 1, 0, none⟩ (.int .i64 x.1)) := (bel4.setCell (by simp) _).setCell (by simp) _
  refine ⟨((k3.trans (KeepsOthers.alloc _ _)).trans kg).trans ((KeepsOthers.setCell _ _ _).trans (KeepsOthers.setCell _ _ _)), ⟨bel5, ?_, ?_⟩, ⟨⟨some ⟨g', 0, none⟩, cap', xs ++ [.slice A3 n3 c3], ?_, ?_, ?_⟩, ?_, set2 (by omega) (set1 (by omega) hl4), set2 (by omega) (set1 (by omega) hg4), h.below.trans bel5⟩⟩
  · exact (show _ = _ from set2 (by omega) (set1 (by omega) hl4)).trans h.bl.symm
  · exact (show _ = _ from set2 (by omega) (set1 (by omega) hg4)).trans h.bg.symm
  · rw [List.length_append]; exact set2 (by omega) hv5
  · rw [List.length_append]; exact ownsRow_setCell_below (ownsRow_setCell_below hown4 (by simp only; omega) _) (by simp only; omega) _
  · rw [List.map_append]
    refine Reps.append (hreps.imp (SlU.keep (((KeepU.of_below b3).trans ku4).trans ku5))) (.one (SlU.keep (ku4.trans ku5) _ _ hs3))
  · rw [lastN_snoc]; exact hn5.set _
theorem boxes4 {w : World} {A : Option Addr} {m c g : Nat} {pre : List It} {W w3 w4 : World} (h : ScanI w A m c g pre W) {A' : Option Addr} {c' : Nat} {xs : List Value} {o : Obj}
    (hv : Boxed W w.heap.size 62 (.slice A' pre.length c')) (hrow : W.ownsRow (w.heap.size + 4) 31 1 (.slice A' pre.length c') pre.length xs) (b3 : Below W.heap.size W w3) (hgrow4 : (w3.alloc o).grownBy w4 (Value.slice A' pre.length c').ownBlock) :
    Boxed w4 w.heap.size 62 (.slice A' pre.length c') ∧ Boxed w4 (w.heap.size + 1) 3 (.int .i64 (lastN pre)) := by
  have ba : Below w3.heap.size w3 (w3.alloc o) := (Below.refl _ _).alloc (Nat.le_refl _) _
  have b3a := bthen b3 ba
  have hlow : ∀ k, k < w.heap.size + 4 → k < W.heap.size → w4.heap[k]? = W.heap[k]? := by
    intro k hk hkW
    rw [hgrow4.block k (Nat.lt_of_lt_of_le hkW b3a.size) (fun e => by have := (hrow.lt k e.symm).1; omega)]
    exact b3a.block k hkW
  exact ⟨(hlow _ (by omega) hv.lt).trans hv, (hlow _ (by omega) h.r5.lt).trans h.r5⟩
end Go.Proofs.Ytkcehoejcklmfaa.L
