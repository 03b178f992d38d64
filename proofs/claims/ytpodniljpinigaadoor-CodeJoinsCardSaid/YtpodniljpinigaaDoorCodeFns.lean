/- The contracts of code's Name, Fields, dec, line (layer 15). -/
import Derived.Test.YtpodniljpinigaaDoorCodePlain
import Derived.Test.YtpodniljpinigaaDoorValPrint
import Derived.Test.YtpodniljpinigaaDoorShelfStr
import Derived.Test.YtpodniljpinigaaDoorReps
import Derived.IntWalk
namespace Go.Proofs.YtpodniljpinigaaDoor.C
open Go.RowKit O V

def names18 : List (List UInt8) := [] :: names
theorem cell_lit {w : World} {b j : Nat} {cs : List Value} {e : TypeId} {v : Value} (hb : w.heap[b]? = some (.cells cs.toArray e (0, 0))) (hv : cs[j]? = some v) : w.cell? ⟨b, j, none⟩ = some v := by
  rw [Lib.cell_of_heap hb]; simpa using hv
theorem name18 (n : Nat) (h : n < 18) : ([.string ⟨#[]⟩, .string ⟨#[118, 97, 108, 117, 101]⟩, .string ⟨#[109, 111, 118, 101]⟩, .string ⟨#[117, 110, 97, 114, 121]⟩, .string ⟨#[98, 105, 110, 97, 114, 121]⟩, .string ⟨#[99, 101, 108, 108]⟩, .string ⟨#[104, 97, 115]⟩, .string ⟨#[115, 117, 109]⟩, .string ⟨#[99, 111, 117, 110, 116]⟩, .string ⟨#[112, 117, 116]⟩, .string ⟨#[100, 101, 108]⟩, .string ⟨#[106, 117, 109, 112]⟩, .string ⟨#[102, 97, 108, 115, 101]⟩, .string ⟨#[107, 101, 121, 115]⟩, .string ⟨#[110, 101, 120, 116]⟩, .string ⟨#[101, 109, 105, 116]⟩, .string ⟨#[98, 97, 99, 107]⟩, .string ⟨#[101, 110, 100]⟩] : List Value)[n]? = some (.string ⟨(names18.getD n []).toArray⟩) := by
  have e : ([.string ⟨#[]⟩, .string ⟨#[118, 97, 108, 117, 101]⟩, .string ⟨#[109, 111, 118, 101]⟩, .string ⟨#[117, 110, 97, 114, 121]⟩, .string ⟨#[98, 105, 110, 97, 114, 121]⟩, .string ⟨#[99, 101, 108, 108]⟩, .string ⟨#[104, 97, 115]⟩, .string ⟨#[115, 117, 109]⟩, .string ⟨#[99, 111, 117, 110, 116]⟩, .string ⟨#[112, 117, 116]⟩, .string ⟨#[100, 101, 108]⟩, .string ⟨#[106, 117, 109, 112]⟩, .string ⟨#[102, 97, 108, 115, 101]⟩, .string ⟨#[107, 101, 121, 115]⟩, .string ⟨#[110, 101, 120, 116]⟩, .string ⟨#[101, 109, 105, 116]⟩, .string ⟨#[98, 97, 99, 107]⟩, .string ⟨#[101, 110, 100]⟩] : List Value) = names18.map (fun s => .string ⟨s.toArray⟩) := rfl
  rw [e, List.getElem?_map]
  have hl : n < names18.length := h
  rw [List.getElem?_eq_getElem hl, List.getD_eq_getElem?_getD, List.getElem?_eq_getElem hl]
  rfl
theorem name_at {n : Nat} (h1 : 1 ≤ n) (h2 : n ≤ 17) : names18.getD n [] = nameI (n : Int) := by
  unfold nameI kindI
  rw [if_pos (by omega)]
  obtain ⟨k, rfl⟩ : ∃ k, n = k + 1 := ⟨n - 1, by omega⟩
  show names18.getD (k + 1) [] = names.getD (((k + 1 : Nat) : Int).toNat - 1) []
  rw [show ((k + 1 : Nat) : Int).toNat - 1 = k by omega]
  rfl
theorem name_out {op : Int} (h : ¬ (1 ≤ op ∧ op ≤ 17)) : nameI op = [] := by unfold nameI kindI; rw [if_neg h]
set_option maxHeartbeats 1000000 in
set_option maxRecDepth 100000 in
theorem name_any (op : Int) (w : World) : Calls Tryd.prog 26 #[.int .i64 op] w fun e w' => e = .returned (.string ⟨(nameI op).toArray⟩) ∧ Below w.heap.size w w' := by
  have B1 : Below w.heap.size w (w.alloc (.cells #[.string ⟨#[]⟩, .string ⟨#[118, 97, 108, 117, 101]⟩, .string ⟨#[109, 111, 118, 101]⟩, .string ⟨#[117, 110, 97, 114, 121]⟩, .string ⟨#[98, 105, 110, 97, 114, 121]⟩, .string ⟨#[99, 101, 108, 108]⟩, .string ⟨#[104, 97, 115]⟩, .string ⟨#[115, 117, 109]⟩, .string ⟨#[99, 111, 117, 110, 116]⟩, .string ⟨#[112, 117, 116]⟩, .string ⟨#[100, 101, 108]⟩, .string ⟨#[106, 117, 109, 112]⟩, .string ⟨#[102, 97, 108, 115, 101]⟩, .string ⟨#[107, 101, 121, 115]⟩, .string ⟨#[110, 101, 120, 116]⟩, .string ⟨#[101, 109, 105, 116]⟩, .string ⟨#[98, 97, 99, 107]⟩, .string ⟨#[101, 110, 100]⟩] 9)) := (Below.refl _ _).alloc (Nat.le_refl _) _
  by_cases h1 : 1 ≤ op
  · by_cases h2 : op ≤ 17
    · obtain ⟨n, rfl⟩ : ∃ n : Nat, op = n := ⟨op.toNat, by omega⟩
      have hn := name_at (n := n) (by omega) (by omega)
      have hc := cell_lit (heap_alloc_new w (.cells #[.string ⟨#[]⟩, .string ⟨#[118, 97, 108, 117, 101]⟩, .string ⟨#[109, 111, 118, 101]⟩, .string ⟨#[117, 110, 97, 114, 121]⟩, .string ⟨#[98, 105, 110, 97, 114, 121]⟩, .string ⟨#[99, 101, 108, 108]⟩, .string ⟨#[104, 97, 115]⟩, .string ⟨#[115, 117, 109]⟩, .string ⟨#[99, 111, 117, 110, 116]⟩, .string ⟨#[112, 117, 116]⟩, .string ⟨#[100, 101, 108]⟩, .string ⟨#[106, 117, 109, 112]⟩, .string ⟨#[102, 97, 108, 115, 101]⟩, .string ⟨#[107, 101, 121, 115]⟩, .string ⟨#[110, 101, 120, 116]⟩, .string ⟨#[101, 109, 105, 116]⟩, .string ⟨#[98, 97, 99, 107]⟩, .string ⟨#[101, 110, 100]⟩] 9)) (name18 n (by omega))
      rw [hn] at hc
      have d1 : decide ((n : Int) < 1) = false := by simp; omega
      have d2 : decide ((n : Int) ≥ 18) = false := by simp; omega
      have hlt : n < 18 := by omega
      clear hn
      generalize nameI (n : Int) = x at *
      go_enter Tryd.func26, Tryd.ntmps26
      go_wp2_with fail
      go_ret
      exact ⟨rfl, B1⟩
    · have hn := name_out (op := op) (by omega)
      rw [hn]
      have d1 : decide (op < 1) = false := by simp; omega
      have d2 : decide (op ≥ 18) = true := by simp; omega
      clear hn
      go_enter Tryd.func26, Tryd.ntmps26
      go_wp2_with fail
      go_ret
      exact ⟨rfl, B1⟩
  · have hn := name_out (op := op) (by omega)
    rw [hn]
    have d1 : decide (op < 1) = true := by simp; omega
    clear hn
    go_enter Tryd.func26, Tryd.ntmps26
    go_wp2_with fail
    go_ret
    exact ⟨rfl, B1⟩
theorem fields_any (op : Int) (w : World) : Calls Tryd.prog 27 #[.int .i64 op] w fun e w' => e = .returned (.int .i64 (fieldsI op)) ∧ w = w' := by
  have HF : Hid (fieldsI op = if op = 1 ∨ op = 11 ∨ op = 15 then 1 else if op = 2 ∨ op = 10 ∨ op = 12 then 2 else if op = 3 ∨ op = 6 ∨ op = 8 ∨ op = 14 then 3 else if op = 4 ∨ op = 5 ∨ op = 7 ∨ op = 9 ∨ op = 13 then 4 else 0) := Lib.hid (by
    by_cases h : 1 ≤ op ∧ op ≤ 17
    · obtain ⟨n, rfl⟩ : ∃ n : Nat, op = n := ⟨op.toNat, by omega⟩
      have : ∀ k : Fin 18, 1 ≤ k.val → fieldsI ((k.val : Nat) : Int) = if ((k.val : Nat) : Int) = 1 ∨ ((k.val : Nat) : Int) = 11 ∨ ((k.val : Nat) : Int) = 15 then 1 else if ((k.val : Nat) : Int) = 2 ∨ ((k.val : Nat) : Int) = 10 ∨ ((k.val : Nat) : Int) = 12 then 2 else if ((k.val : Nat) : Int) = 3 ∨ ((k.val : Nat) : Int) = 6 ∨ ((k.val : Nat) : Int) = 8 ∨ ((k.val : Nat) : Int) = 14 then 3 else if ((k.val : Nat) : Int) = 4 ∨ ((k.val : Nat) : Int) = 5 ∨ ((k.val : Nat) : Int) = 7 ∨ ((k.val : Nat) : Int) = 9 ∨ ((k.val : Nat) : Int) = 13 then 4 else 0 := by decide +kernel
      exact this ⟨n, by omega⟩ (by show 1 ≤ n; omega)
    · unfold fieldsI kindI
      rw [if_neg h, if_neg (by omega), if_neg (by omega), if_neg (by omega), if_neg (by omega)])
  generalize fieldsI op = F at *
  go_enter Tryd.func27, Tryd.ntmps27
  go_wp2_with fail
  all_goals
    go_ret
    refine ⟨?_, rfl⟩
    refine ret_int ?_
    have := HF.out
    simp only [beq_eq_false_iff_ne, beq_iff_eq, ne_eq] at *
    clear HF
    repeat' split at this
    all_goals omega
end Go.Proofs.YtpodniljpinigaaDoor.C
