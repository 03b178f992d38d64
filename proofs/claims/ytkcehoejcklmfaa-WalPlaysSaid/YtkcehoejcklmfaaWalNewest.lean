/- The contract of wal.newest: the newer one of the two slots' images. -/
import Derived.Test.YtkcehoejcklmfaaWalFns
import Derived.Test.YtkcehoejcklmfaaWalLogPlain
import Derived.Test.YtkcehoejcklmfaaDiskFns2
namespace Go.Proofs.Ytkcehoejcklmfaa.L
open Go.RowKit O D K

/-- A slot as a row of the caller's own. -/
def slotN (s : St) (k : Nat) : List UInt8 := if k = 0 then s.n0 else s.n1
set_option maxHeartbeats 800000 in
theorem slotC_any {w : World} {base g : Nat} {r : Option Nat} {s : St} (k : Nat) (hk : k < 2) (h : DiskAt w base g r s) (h0 : s.n0.length ≤ 10000000) (h1 : s.n1.length ≤ 10000000) :
    Calls Try.prog 25 #[ptr g, .int .i64 (k : Int)] w (RetB (slotN s k) w) := by
  obtain ⟨⟨A, n, c⟩, ⟨A0, n0, c0⟩, ⟨A1, n1, c1⟩, s0, s1, h, rfl⟩ := h
  have d3 := h.cell 3
  have d4 := h.cell 4
  have r0 := h.rn0.1
  have r1 := h.rn1.1
  simp [cellsD] at d3 d4 r0 r1
  have l0 : s.n0.length = n0 := by have := r0.1; simp at this; omega
  have l1 : s.n1.length = n1 := by have := r1.1; simp at this; omega
  clear h
  have hk2 : k = 0 ∨ k = 1 := by omega
  rcases hk2 with rfl | rfl
  · go_enter Try.func25, Try.ntmps25
    go_wp2_with fail
    refine (is_any _ _).mono ?_; rintro e w' ⟨rfl, rfl⟩
    go_wp2_with fail
    refine (own_any A0 n0 c0 s.n0 _ r0 (by omega)).mono ?_; rintro e w1 ⟨A1, n1', c1', rfl, hown1, hb1⟩
    go_wp2_with fail
    go_ret
    exact ⟨_, _, _, rfl, hown1, hb1⟩
  · go_enter Try.func25, Try.ntmps25
    go_wp2_with fail
    refine (is_any _ _).mono ?_; rintro e w' ⟨rfl, rfl⟩
    go_wp2_with fail
    refine (own_any A1 n1 c1 s.n1 _ r1 (by omega)).mono ?_; rintro e w1 ⟨A1, n1', c1', rfl, hown1, hb1⟩
    go_wp2_with fail
    go_ret
    exact ⟨_, _, _, rfl, hown1, hb1⟩

def newer (a b : Option (Nat × List UInt8)) : Option (Nat × List UInt8) := match a, b with
  | a, none => a
  | none, some y => some y
  | some x, some y => if x.1 < y.1 then some y else some x
/-- The newest image behind so many slots. -/
def newTo (s : St) : Nat → Option (Nat × List UInt8)
  | 0 => none
  | k + 1 => newer (newTo s k) (imageOf (slotN s k))
def optG (a : Option (Nat × List UInt8)) : Nat := match a with | none => 0 | some x => x.1
def optS (a : Option (Nat × List UInt8)) : List UInt8 := match a with | none => [] | some x => x.2
theorem imG_opt (l : List UInt8) : imG l = (optG (imageOf l) : Int) := by unfold imG optG; split <;> rename_i h <;> simp [h]
theorem imS_opt (l : List UInt8) : imS l = optS (imageOf l) := by unfold imS optS; split <;> rename_i h <;> simp [h]

def RetN (s : St) (w : World) (e : Ending) (w' : World) : Prop :=
  ∃ A n c, e = .returned (.tuple #[.int .u32 (optG (newTo s 2) : Int), .slice A n c]) ∧ Rd w' w'.heap.size 1 A n (bv (optS (newTo s 2))) ∧ n ≤ c ∧ Below w.heap.size w w'

set_option maxRecDepth 100000 in
set_option maxHeartbeats 4000000 in
theorem newest_any {w : World} {base g : Nat} {r : Option Nat} {s : St} (h : DiskAt w base g r s) (h0 : s.n0.length ≤ 10000000) (h1 : s.n1.length ≤ 10000000) :
    Calls Try.prog 75 #[ptr g] w (RetN s w) := by
  have hsl : ∀ k, (slotN s k).length ≤ 10000000 := fun k => by unfold slotN; split <;> omega
  have Hh := Lib.hid h; clear h
  have Hhsl := Lib.hid hsl; clear hsl
  go_enter Try.func75, Try.ntmps75
  go_wp2_with fail
  go_loopw [2, 3, 4, 9] (fun G I S i wr => ∃ (k : Nat) (A : Option Addr) (n c : Nat), k ≤ 2 ∧ i = .int .i64 k ∧ G = .int .u32 (optG (newTo s k) : Int) ∧ I = .slice A n c ∧ S = .bool (newTo s k).isSome ∧ Rd wr wr.heap.size 1 A n (bv (optS (newTo s k))) ∧ n ≤ c ∧ Below w.heap.size w wr) (fun _ _ _ i _ => 2 - (intOf i).toNat)
  case atStart => exact ⟨0, none, 0, 0, by omega, rfl, rfl, rfl, rfl, Rd.nil_, by omega, Below.refl _ _⟩
  case round =>
    obtain ⟨k, A, n, c, hk, rfl, rfl, rfl, rfl, hr, hnc, bel⟩ := hrel
    have Hhr := Lib.hid hr; clear hr
    by_cases hk2 : k < 2
    · go_wp2_with fail
      refine (slotC_any k hk2 (Hh.out.below bel) h0 h1).mono ?_; rintro e w1 ⟨A1, n1, c1, rfl, o1, b1⟩
      have hc1 := own_cap o1
      have hl1 := own_len o1
      have hs1 := Hhsl.out k
      have Ho1 := Lib.hid o1; clear o1
      go_wp2_with fail
      refine (readImage_any A1 n1 c1 (slotN s k) _ (Rd.of_own Ho1.out) hc1.1 (by omega) hc1.2).mono ?_; rintro e w2 ⟨A2, n2, c2, rfl, r2, hnc2, b2⟩
      have b12 := bthen b1 b2
      have bel2 := bthen bel b12
      have E : newTo s (k + 1) = newer (newTo s k) (imageOf (slotN s k)) := rfl
      rw [imS_opt] at r2
      rw [imG_opt]
      have Hr2 := Lib.hid r2; clear r2
      have HE := Lib.hid E; clear E
      generalize newTo s k = x at *
      generalize imageOf (slotN s k) = y at *
      cases y with
      | none =>
        go_wp2_with fail
        go_roundw
        case rel =>
          have e : newTo s (k + 1) = x := HE.out
          exact ⟨k + 1, A, n, c, by omega, by go_num, by (rw [e]; try rfl), rfl, by (rw [e]; try rfl), by (rw [e]; exact Hhr.out.next b12), hnc, bel2⟩
        case measure => simp [intOf]; omega
      | some y =>
        obtain ⟨y1, y2⟩ := y
        cases x with
        | none =>
          go_wp2_with fail
          go_roundw
          case rel =>
            have e : newTo s (k + 1) = some (y1, y2) := HE.out
            exact ⟨k + 1, A2, n2, c2, by omega, by go_num, by (rw [e]; try rfl), rfl, by (rw [e]; try rfl), by (rw [e]; exact Hr2.out), hnc2, bel2⟩
          case measure => simp [intOf]; omega
        | some x =>
          obtain ⟨x1, x2⟩ := x
          have e1 : optG (some (x1, x2)) = x1 := rfl
          have e2 : optG (some (y1, y2)) = y1 := rfl
          rw [e1, e2]
          by_cases hlt : x1 < y1
          · have e : newTo s (k + 1) = some (y1, y2) := HE.out.trans (if_pos hlt)
            have HE2 := Lib.hid e; clear e
            go_wp2_with fail
            go_roundw
            case rel => have e := HE2.out; exact ⟨k + 1, A2, n2, c2, by omega, by go_num, by (rw [e]; try rfl), rfl, by (rw [e]; try rfl), by (rw [e]; exact Hr2.out), hnc2, bel2⟩
            case measure => simp [intOf]; omega
          · have e : newTo s (k + 1) = some (x1, x2) := HE.out.trans (if_neg hlt)
            have HE2 := Lib.hid e; clear e
            go_wp2_with fail
            go_roundw
            case rel => have e := HE2.out; exact ⟨k + 1, A, n, c, by omega, by go_num, by (rw [e]; try rfl), rfl, by (rw [e]; try rfl), by (rw [e]; exact Hhr.out.next b12), hnc, bel2⟩
            case measure => simp [intOf]; omega
    · obtain rfl : k = 2 := by omega
      go_wp2_with fail
      go_ret2
      exact ⟨A, n, c, rfl, Hhr.out, hnc, bel⟩
end Go.Proofs.Ytkcehoejcklmfaa.L
