/- billhookref04.Scan, Same. -/
import Derived.Test.YtkcehoejcklmfaaWalRef2
import Derived.Test.YtkcehoejcklmfaaWalScan2
import Derived.BigQuiet
namespace Go.Proofs.Ytkcehoejcklmfaa.L
open Go.RowKit O K

abbrev strV (l : List UInt8) : Value := .string ⟨l.toArray⟩
theorem strE : Elem Try.prog 25 9 1 16 (.string ByteArray.empty) := by
  obtain ⟨i, hi, h1, h2, h3⟩ := info_parts (show (Try.prog.info? 9).map (fun i => (i.zero, i.size, i.bytes)) = some (some (.string ByteArray.empty), 1, 16) by kernel_rfl)
  exact ⟨Try.underlying25, i, hi, h1, h2, h3, rfl, by omega⟩
/-- What the reference's Scan returns. -/
def RetRows (rows : List (List UInt8)) (k : Nat) (w : World) (e : Ending) (w' : World) : Prop :=
  ∃ A n c, e = .returned (.tuple #[.slice A n c, .int .i64 (k : Int)]) ∧ w'.ownsRow w.heap.size 9 1 (.slice A n c) n (rows.map strV) ∧ Below w.heap.size w w'
theorem frameL_ne {g g' : Nat} {s : List UInt8} (hg : g < 4294967296) (hg' : g' < 4294967296) (h : g ≠ g') : (frameL g s == frameL g' s) = false := by
  rw [beq_eq_false_iff_ne]
  intro e
  apply h
  have e1 : (frameL g s).take 4 = wordL g := by simp [frameL, sealL, headL, wordL]
  have e2 : (frameL g' s).take 4 = wordL g' := by simp [frameL, sealL, headL, wordL]
  rw [e, e2] at e1
  exact (wordL_inj hg' hg e1).symm

set_option maxRecDepth 100000 in
set_option maxHeartbeats 4000000 in
theorem rscan_any (l : List UInt8) (g : Nat) (w : World) (hl : l.length ≤ 10000000) (hg : g < 4294967296) :
    Calls Try.prog 42 #[.string ⟨l.toArray⟩, .int .u32 g] w (RetRows (scanFrom l g 0).1 (scanFrom l g 0).2 w) := by
  go_enter Try.func42, Try.ntmps42
  go_wp2_with fail
  go_loopw [6, 7] (fun v t wr => ∃ (pre : List (List UInt8)) (i : Nat) (A : Option Addr) (n c : Nat), t = .int .i64 (i : Int) ∧ v = .slice A n c ∧ wr.ownsRow w.heap.size 9 1 (.slice A n c) n (pre.map strV) ∧ scanFrom l g 0 = (pre ++ (scanFrom l g i).1, (scanFrom l g i).2) ∧ i ≤ l.length ∧ pre.length ≤ i ∧ Below w.heap.size w wr) (fun _ t _ => l.length - (intOf t).toNat)
  case atStart => exact ⟨[], 0, none, 0, 0, rfl, rfl, World.ownsRow_nil _ _ _ _, by simp, Nat.zero_le _, Nat.le_refl _, Below.refl _ _⟩
  case round =>
    obtain ⟨pre, i, A, n, c, rfl, rfl, hown, hsc, hil, hpl, hb⟩ := hrel
    have hn : n = pre.length := by have := hown.1; simp at this; omega
    by_cases hlt : i < l.length
    · have G := rtext_any l i wr hl hil
      unfold resX at G
      cases hf : frameAt l (i : Int) with
      | none =>
        rw [hf] at G
        simp only at G
        have hs0 : scanFrom l g i = ([], i) := scan_no (fun s k e => by rw [hf] at e; cases e)
        rw [hs0] at hsc
        have HG := Lib.hid G; clear G
        have Hhf := Lib.hid hf; clear hf
        have Hhs0 := Lib.hid hs0; clear hs0
        have Hhsc := Lib.hid hsc; clear hsc
        have Hhown := Lib.hid hown; clear hown
        have Hhb := Lib.hid hb; clear hb
        have Hhn := Lib.hid hn; clear hn
        go_wp2_with fail
        refine (HG.out).mono ?_; rintro e w1 ⟨rfl, b1⟩
        go_wp2_with fail
        refine wp_region_sched [(0, true), (1, true), (2, true), (3, true), (4, true), (6, true), (7, true), (8, true), (9, true), (10, true), (11, true), (5, false), (12, true), (13, true)] (by kernel_rfl) (by kernel_rfl) (fun _ _ d _ _ h => by cases d <;> exact h) ?_
        repeat (first | (refine sreadx rfl rfl ?_; apply Exists.intro; apply And.intro; (· (intro W hW; first | (go_simp; done) | (go_simp; with_reducible rfl) | (go_simp; rw [if_neg (by omega)]; done) | (go_simp; rw [if_neg (by omega)]; with_reducible rfl))); simp only [Act.put, List.setIfInBounds_toArray, List.set_cons_zero, List.set_cons_succ]) | (refine sskip rfl rfl ?_; simp only [Act.put, List.setIfInBounds_toArray, List.set_cons_zero, List.set_cons_succ]))
        refine sdone ?_
        go_wp2_with fail
        go_ret2
        unfold RetRows
        rw [Hhsc.out, List.append_nil]
        exact ⟨A, n, c, rfl, (own_below Hhown.out b1).drew, (Hhb.out.trans (b1.mono Hhb.out.size)).drew⟩
      | some q =>
        obtain ⟨g', s, k⟩ := q
        rw [hf] at G
        simp only at G
        obtain ⟨f1, f2, f3, f4⟩ := (frameAt_some (by omega)).1 hf
        have h8 := frameL_pos g' s
        have hk0 : ((k : Int) == 0) = false := by simp; omega
        have hk8 : 8 ≤ k := by omega
        have hmid := ba_mid l i k
        rw [f4] at hmid
        have hsl : s.length ≤ 10000000 := by have := frameL_len g' s; have := textL_len s; omega
        have i1 : (0 : Int) ≤ (i : Int) + (k : Int) := by omega
        have i2 : (i : Int) ≤ (i : Int) + (k : Int) := by omega
        have i3 : (i : Int) + (k : Int) ≤ (l.length : Int) := by omega
        have hw : IntKind.i64.wrap ((i : Int) + (k : Int)) = (i : Int) + (k : Int) := IntWalk.i64_in _ (by omega)
        have hnat : ((i : Int) + (k : Int)).toNat = i + k := by omega
        by_cases hgg : g = g'
        · subst hgg
          have hsc2 := scan_yes (by omega) hf
          rw [hsc2] at hsc
          have HG := Lib.hid G; clear G
          have Hhf := Lib.hid hf; clear hf
          have Hhsc := Lib.hid hsc; clear hsc
          have Hhown := Lib.hid hown; clear hown
          have Hhb := Lib.hid hb; clear hb
          have Hhn := Lib.hid hn; clear hn
          have Hf3 := Lib.hid f3; clear f3
          have Hf4 := Lib.hid f4; clear f4
          have Hhsc2 := Lib.hid hsc2; clear hsc2
          go_wp2_with fail
          refine (HG.out).mono ?_; rintro e w1 ⟨rfl, b1⟩
          go_wp2_with fail
          refine wp_region_sched [(0, true), (1, true), (2, true), (3, true), (4, true), (6, true), (7, true), (8, true), (9, true), (10, true), (11, true), (5, false), (12, true), (13, true)] (by kernel_rfl) (by kernel_rfl) (fun _ _ d _ _ h => by cases d <;> exact h) ?_
          repeat (first | (refine sreadx rfl rfl ?_; apply Exists.intro; apply And.intro; (· (intro W hW; first | (go_simp; done) | (go_simp; with_reducible rfl) | (go_simp; rw [if_neg (by omega)]; done) | (go_simp; rw [if_neg (by omega)]; with_reducible rfl))); simp only [Act.put, List.setIfInBounds_toArray, List.set_cons_zero, List.set_cons_succ]) | (refine sskip rfl rfl ?_; simp only [Act.put, List.setIfInBounds_toArray, List.set_cons_zero, List.set_cons_succ]))
          refine scall rfl rfl (fun K hK => ?_)
          go_simp
          refine (rframe_any g s _ hg (by omega)).mono ?_; rintro e w2 ⟨rfl, b2⟩
          go_wp2_with fail
          refine hK.out _ _ (by exact b2) ?_
          clear hK K
          try simp only [Act.put, List.setIfInBounds_toArray, List.set_cons_zero, List.set_cons_succ]
          repeat (first | (refine sreadx rfl rfl ?_; apply Exists.intro; apply And.intro; (· (intro W hW; first | (go_simp; done) | (go_simp; with_reducible rfl) | (go_simp; rw [if_neg (by omega)]; done) | (go_simp; rw [if_neg (by omega)]; with_reducible rfl))); simp only [Act.put, List.setIfInBounds_toArray, List.set_cons_zero, List.set_cons_succ]) | (refine sskip rfl rfl ?_; simp only [Act.put, List.setIfInBounds_toArray, List.set_cons_zero, List.set_cons_succ]))
          refine sdone ?_
          clear hw hnat hmid
          have o2 := own_below ((own_below Hhown.out b1).drew) b2
          have B2 := ((Hhb.out.trans (b1.mono Hhb.out.size)).drew).trans (b2.mono (Nat.le_trans Hhb.out.size b1.size))
          have s2 := B2.size
          have hn2 : n ≤ 10000000 := by have := Hhn.out; omega
          clear b1 b2
          have Ho2 := Lib.hid o2; clear o2
          have HB2 := Lib.hid B2; clear B2
          go_wp2_with (at_builtin; refine wpList_app rfl (.tmp 34) (.tmp 36) strE rfl w.heap.size _ rfl (Ho2.out.alloc _) rfl [strV s] (Rd.made _ [strV s] rfl rfl) (by simp [Value.oneCell']) (by unfold maxLen; omega) (by omega) (by simp; omega) ?_; intro A3 c3 w3 hown3 hg3 hr3; have HO3 := Lib.hid hown3; clear hown3; have HG3 := Lib.hid hg3; clear hg3; clear hr3)
          go_roundw
          case rel => exact ⟨pre ++ [s], i + k, A3, n + 1, c3, by go_num, rfl, by rw [List.map_append]; exact HO3.out, by rw [Hhsc.out]; simp, by omega, by simp; omega, below_app (HB2.out.alloc s2 _) (Ho2.out.alloc _) HG3.out (by simp; omega)⟩
          case measure => simp [intOf]; omega
        · have hne := frameL_ne (s := s) hg f1 hgg
          have hs0 : scanFrom l g i = ([], i) := scan_no (fun s' k' e => by rw [hf] at e; injection e with e; injection e with e; exact hgg e.symm)
          rw [hs0] at hsc
          have HG := Lib.hid G; clear G
          have Hhf := Lib.hid hf; clear hf
          have Hhsc := Lib.hid hsc; clear hsc
          have Hhown := Lib.hid hown; clear hown
          have Hhb := Lib.hid hb; clear hb
          have Hhn := Lib.hid hn; clear hn
          have Hf3 := Lib.hid f3; clear f3
          have Hf4 := Lib.hid f4; clear f4
          have Hhs0 := Lib.hid hs0; clear hs0
          go_wp2_with fail
          refine (HG.out).mono ?_; rintro e w1 ⟨rfl, b1⟩
          go_wp2_with fail
          refine wp_region_sched [(0, true), (1, true), (2, true), (3, true), (4, true), (6, true), (7, true), (8, true), (9, true), (10, true), (11, true), (5, false), (12, true), (13, true)] (by kernel_rfl) (by kernel_rfl) (fun _ _ d _ _ h => by cases d <;> exact h) ?_
          repeat (first | (refine sreadx rfl rfl ?_; apply Exists.intro; apply And.intro; (· (intro W hW; first | (go_simp; done) | (go_simp; with_reducible rfl) | (go_simp; rw [if_neg (by omega)]; done) | (go_simp; rw [if_neg (by omega)]; with_reducible rfl))); simp only [Act.put, List.setIfInBounds_toArray, List.set_cons_zero, List.set_cons_succ]) | (refine sskip rfl rfl ?_; simp only [Act.put, List.setIfInBounds_toArray, List.set_cons_zero, List.set_cons_succ]))
          refine scall rfl rfl (fun K hK => ?_)
          go_simp
          refine (rframe_any g s _ hg (by omega)).mono ?_; rintro e w2 ⟨rfl, b2⟩
          go_wp2_with fail
          refine hK.out _ _ (by exact b2) ?_
          clear hK K
          try simp only [Act.put, List.setIfInBounds_toArray, List.set_cons_zero, List.set_cons_succ]
          repeat (first | (refine sreadx rfl rfl ?_; apply Exists.intro; apply And.intro; (· (intro W hW; first | (go_simp; done) | (go_simp; with_reducible rfl) | (go_simp; rw [if_neg (by omega)]; done) | (go_simp; rw [if_neg (by omega)]; with_reducible rfl))); simp only [Act.put, List.setIfInBounds_toArray, List.set_cons_zero, List.set_cons_succ]) | (refine sskip rfl rfl ?_; simp only [Act.put, List.setIfInBounds_toArray, List.set_cons_zero, List.set_cons_succ]))
          refine sdone ?_
          clear hw hnat hmid
          go_wp2_with fail
          go_ret2
          unfold RetRows
          rw [Hhsc.out, List.append_nil]
          exact ⟨A, n, c, rfl, own_below ((own_below Hhown.out b1).drew) b2, ((Hhb.out.trans (b1.mono Hhb.out.size)).drew).trans (b2.mono (Nat.le_trans Hhb.out.size b1.size))⟩
    · have hs0 : scanFrom l g i = ([], i) := scan_no (fun s' k' e => by
        obtain ⟨_, f2, f3, _⟩ := (frameAt_some (by omega)).1 e
        have := frameL_pos g s'
        omega)
      rw [hs0] at hsc
      have Hhs0 := Lib.hid hs0; clear hs0
      have Hhsc := Lib.hid hsc; clear hsc
      have Hhown := Lib.hid hown; clear hown
      have Hhb := Lib.hid hb; clear hb
      have Hhn := Lib.hid hn; clear hn
      go_wp2_with fail
      go_ret2
      unfold RetRows
      rw [Hhsc.out, List.append_nil]
      exact ⟨A, n, c, rfl, Hhown.out, Hhb.out⟩

theorem rd_row {W : World} {B n : Nat} {A : Option Addr} {xs : List Value} (h : Rd W B 1 A n xs) {k : Nat} (hk : k < n) : ∃ b off, A = some ⟨b, off, none⟩ ∧ b < B ∧ W.cell? ⟨b, off + k, none⟩ = xs[k]? := by
  obtain ⟨b, off, e, hb, hc⟩ := h.pos hk
  exact ⟨b, off, e, hb, hc k hk⟩

set_option maxRecDepth 100000 in
set_option maxHeartbeats 4000000 in
/-- Same, of rows that are the same. -/
theorem rsame_any (A : Option Addr) (n c : Nat) (A' : Option Addr) (n' c' : Nat) (rows : List (List UInt8)) (xs : List Value) (w : World) (hx : Rd w w.heap.size 1 A n xs) (hreps : Reps (SlU w) rows xs) (hy : Rd w w.heap.size 1 A' n' (rows.map strV)) (hn : n ≤ 100000000) :
    Calls Try.prog 43 #[.slice A n c, .slice A' n' c'] w fun e w' => e = .returned (.bool true) ∧ Below w.heap.size w w' := by
  have hln := hx.len_of SlU.size hreps (by omega)
  have hln' : rows.length = n' := by have := hy.1; simp at this; omega
  subst hln hln'
  have Hhx := Lib.hid hx; clear hx
  have Hhreps := Lib.hid hreps; clear hreps
  have Hhy := Lib.hid hy; clear hy
  go_enter Try.func43, Try.ntmps43
  go_wp2_with fail
  go_loopw [13] (fun t wr => ∃ k : Nat, k ≤ rows.length ∧ t = .int .i64 (k : Int) ∧ Below w.heap.size w wr) (fun t _ => rows.length - (intOf t).toNat)
  case atStart => exact ⟨0, Nat.zero_le _, rfl, Below.refl _ _⟩
  case round =>
    obtain ⟨k, hk, rfl, hb⟩ := hrel
    by_cases hlt : k < rows.length
    · obtain ⟨b, off, vs, rfl, hbl, ⟨A3, m3, c3, rfl, hr3, hm3, ht3⟩, hc⟩ := Hhx.out.elem SlU.size Hhreps.out hlt (by omega)
      obtain ⟨b', off', rfl, hbl', hc'⟩ := rd_row Hhy.out hlt
      have e0 := hc 0 (by omega)
      simp at e0
      have e1 : w.cell? ⟨b', off' + k, none⟩ = some (strV rows[k]) := by rw [hc']; simp [hlt]
      generalize rows[k] = row at *
      clear hc hc'
      have i1 : (0 : Int) ≤ (k : Int) := by omega
      have i2 : (k : Int) < (rows.length : Int) := by omega
      have He0 := Lib.hid e0; clear e0
      have He1 := Lib.hid e1; clear e1
      have Hhr3 := Lib.hid hr3; clear hr3
      have Hht3 := Lib.hid ht3; clear ht3
      have Hhb := Lib.hid hb; clear hb
      go_wp2_with fail
      refine wp_region_sched [(0, true), (1, true), (2, true), (3, true), (4, true), (5, true), (6, true), (7, true), (8, true), (9, true)] (by kernel_rfl) (by kernel_rfl) (fun _ _ d _ _ h => by cases d <;> exact h) ?_
      refine sbelow (w0 := w) Hhb.out.drew (fun B0 => ?_)
      refine swith (fun W hW => (((bthen B0 hW.out).cell (p := ⟨b, off + k, none⟩) hbl).trans He0.out)) (fun q0 => ?_)
      refine swith (fun W hW => (((bthen B0 hW.out).cell (p := ⟨b', off' + k, none⟩) hbl').trans He1.out)) (fun q1 => ?_)
      refine swith (fun W hW => (strq (c := c3) (Hhr3.out.next (bthen B0 hW.out)))) (fun q2 => ?_)
      repeat (first | (refine sreadx rfl rfl ?_; apply Exists.intro; apply And.intro; (· (intro W hW; first | (go_simp; done) | (go_simp; with_reducible rfl) | (go_simp; rw [if_neg (by omega)]; done) | (go_simp; rw [if_neg (by omega)]; with_reducible rfl))); simp only [Act.put, List.setIfInBounds_toArray, List.set_cons_zero, List.set_cons_succ]) | (refine sskip rfl rfl ?_; simp only [Act.put, List.setIfInBounds_toArray, List.set_cons_zero, List.set_cons_succ]))
      refine sdone ?_
      clear q0 q1 q2
      go_wp2_with fail
      go_roundw
      case rel => exact ⟨k + 1, by omega, by go_num, B0⟩
      case measure => simp [intOf]; omega
    · go_wp2_with fail
      go_ret
      exact ⟨rfl, hb⟩
end Go.Proofs.Ytkcehoejcklmfaa.L
