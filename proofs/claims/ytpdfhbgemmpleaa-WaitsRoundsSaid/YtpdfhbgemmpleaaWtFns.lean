/- The contracts of package waits: row, comes. -/
import Derived.Test.YtpdfhbgemmpleaaWtMem
import Derived.Test.YtpdfhbgemmpleaaSched
import Derived.Test.YtpdfhbgemmpleaaSchedB
namespace Go.Proofs.Ytpdfhbgemmpleaa.T
open Go.RowKit

/-- What is known of a row of waits. -/
structure GOk (L : Gr) : Prop where
  n : L.length ≤ 40
  m : ∀ p ∈ L, p.2.length ≤ 11
  w : ∀ p ∈ L, wf p.1
  e : ∀ p ∈ L, ∀ y ∈ p.2, wf y
theorem GOk.forE {L : Gr} (h : GOk L) (x : Int) : (forE L x).length ≤ 11 ∧ ∀ y ∈ forE L x, wf y := by
  rcases forE_in L x with e | e
  · rw [e]; simp
  · exact ⟨h.m _ e, h.e _ e⟩
theorem below_gb {w a b : World} {g : Nat} (h : Below w.heap.size w a) (k : a.grownBy b (some g)) (hg : w.heap.size ≤ g) : Below w.heap.size w b :=
  h.trans ⟨k.os, k.tape, k.output, k.size, fun i hi => k.block i (Nat.lt_of_lt_of_le hi h.size) (fun e => by injection e with e; omega)⟩
set_option maxHeartbeats 2000000 in
set_option maxRecDepth 100000 in
theorem wrow_any (A : Option Addr) (n c : Nat) (L : Gr) (w : World) (h : GRow w A n c L) (ok : GOk L) :
    Calls Try.prog 18 #[.slice A n c] w fun e w' => ∃ b, e = .returned (.map (some b)) ∧ EMap w' b L ∧ Below w.heap.size w w' := by
  have hl := h.len
  have HG := Lib.hid h
  have OK := Lib.hid ok
  have HL := Lib.hid hl
  have hn := ok.n
  rw [hl] at hn
  clear h hl
  have E0 := Lib.hid (EMap.made w)
  have B0 : Hid (Below w.heap.size w (w.alloc (.map #[] 0))) := Lib.hid ((Below.refl _ _).alloc (Nat.le_refl _) _)
  have hmm := @run_makeMap Try.prog
  go_enter Try.func18, Try.ntmps18
  go_wp2_with fail
  go_loopw [11] (fun iv wr => ∃ j : Nat, j ≤ n ∧ iv = .int .i64 (j : Int) ∧ Hid (EMap wr w.heap.size (L.take j)) ∧ Hid (Below w.heap.size w wr)) (fun iv _ => n - (intOf iv).toNat)
  case atStart => exact ⟨0, by omega, rfl, by simpa using E0, B0⟩
  case round =>
    obtain ⟨j, hj, rfl, HE, HB⟩ := hrel
    clear E0 B0
    by_cases hlt : j < n
    · have hji : (j : Int) < (n : Int) := by omega
      have hjl : j < L.length := by rw [HL.out]; exact hlt
      obtain ⟨b1, off, A1, n1, c1, rfl, hbl, hr1, hc⟩ := HG.out.at hjl
      obtain ⟨c0, c1'⟩ := hc wr HB.out
      have HTK : Hid (L.take (j + 1) = L.take j ++ [L[j]]) := Lib.hid (List.take_succ_eq_append_getElem hjl)
      have hwf := OK.out.w _ (List.getElem_mem hjl)
      have HWF := Lib.hid hwf
      have HLT : Hid ((L.take j).length < 1000) := Lib.hid (by rw [List.length_take]; omega)
      clear hc hwf
      generalize L[j] = p at *
      obtain ⟨p1, p2⟩ := p
      dsimp only at *
      have BA : Below wr.heap.size wr (wr.alloc (.cells #[.int .i64 p1, .slice A1 n1 c1] 29)) := (Below.refl _ _).alloc (Nat.le_refl _) _
      have HE2 := Lib.hid (HE.out.next BA)
      have HR2 := Lib.hid ((hr1.next HB.out).next BA)
      have HB2 := Lib.hid (bthen HB.out BA)
      have hX := heap_alloc_new wr (.cells #[.int .i64 p1, .slice A1 n1 c1] 29)
      have x0 : (wr.alloc (.cells #[.int .i64 p1, .slice A1 n1 c1] 29)).cell? ⟨wr.heap.size, 0, none⟩ = some (.int .i64 p1) := by rw [Lib.cell_of_heap hX]; rfl
      have x1 : (wr.alloc (.cells #[.int .i64 p1, .slice A1 n1 c1] 29)).cell? ⟨wr.heap.size, 1, none⟩ = some (.slice A1 n1 c1) := by rw [Lib.cell_of_heap hX]; rfl
      obtain ⟨v, f, hf, hrun⟩ := HE2.out.lookOk HWF.out
      clear BA hX hr1
      cases f with
      | true =>
        have HTW := Lib.hid (hf.1 rfl)
        clear hf
        go_wp2_with fail
        go_roundw
        case rel => exact ⟨j + 1, by omega, by go_num, Lib.hid (by rw [HTK.out]; exact HE2.out.twice HTW.out), HB2⟩
        case measure => simp [intOf]; omega
      | false =>
        have HNO : Hid (∀ q ∈ L.take j, q.1 ≠ p1) := Lib.hid (fun q hq e => by have := hf.2 ⟨q, hq, e⟩; cases this)
        clear hf
        go_wp2_with (at_mapUpdate; refine wpList_put_e rfl (.tmp 24) (.tmp 26) (.tmp 28) rfl rfl rfl rfl HE2.out HWF.out HNO.out HLT.out HR2.out ?_; intro w5 he5 g5)
        go_roundw
        case rel => exact ⟨j + 1, by omega, by go_num, Lib.hid (by rw [HTK.out]; exact he5), Lib.hid (below_gb HB2.out g5 (Nat.le_refl _))⟩
        case measure => simp [intOf]; omega
    · obtain rfl : j = n := by omega
      have hE := HE.out
      rw [List.take_of_length_le (by rw [HL.out]; exact Nat.le_refl _)] at hE
      have HE2 := Lib.hid hE
      clear hE HE
      go_wp2_with fail
      go_ret
      exact ⟨_, rfl, HE2.out, HB.out⟩
end Go.Proofs.Ytpdfhbgemmpleaa.T
