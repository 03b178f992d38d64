/- Frames behind frames, as plain data; rows of bytes that came in. -/
import Derived.Test.YtkcehoejcklmfaaWalRef3
namespace Go.Proofs.Ytkcehoejcklmfaa.L
open Go.RowKit O K

/-- The row of an empty slice literal. -/
theorem own_litA (w : World) {base e b : Nat} (hb : b = w.heap.size) (hB : base ≤ b) : (w.alloc (.cells #[] e)).ownsRow base e 1 (.slice (some ⟨b, 0, none⟩) 0 0) 0 [] := by
  subst hb
  exact own_lit w [] hB (by simp)
def catF (g : Nat) (rows : List (List UInt8)) : List UInt8 := rows.flatMap (frameL g)
theorem catF_snoc (g : Nat) (rows : List (List UInt8)) (s : List UInt8) : catF g (rows ++ [s]) = catF g rows ++ frameL g s := by simp [catF]
theorem frame_here {L pre rest s : List UInt8} {g : Nat} (hL : L = pre ++ (frameL g s ++ rest)) (hg : g < 4294967296) (hl : L.length < 1000000000) : frameAt L (pre.length : Nat) = some (g, s, (frameL g s).length) := by
  refine (frameAt_some hl).2 ⟨hg, by rw [hL]; simp <;> omega, rfl, ?_⟩
  rw [hL, List.drop_left, List.take_left]
theorem scan_cat (g : Nat) (hg : g < 4294967296) : ∀ (rows : List (List UInt8)) (L pre rest : List UInt8), L = pre ++ (catF g rows ++ rest) → L.length < 1000000000 →
    scanFrom L g pre.length = (rows ++ (scanFrom L g (pre.length + (catF g rows).length)).1, (scanFrom L g (pre.length + (catF g rows).length)).2)
  | [], L, pre, rest, _, _ => by simp [catF]
  | s :: rows, L, pre, rest, hL, hl => by
    have e : catF g (s :: rows) = frameL g s ++ catF g rows := by simp [catF]
    rw [e, List.append_assoc] at hL
    have hf := frame_here hL hg hl
    rw [scan_yes hl hf]
    have ih := scan_cat g hg rows L (pre ++ frameL g s) rest (by rw [hL, List.append_assoc]) hl
    rw [List.length_append] at ih
    rw [ih, e, List.length_append, Nat.add_assoc]
    simp
theorem scan_last {L : List UInt8} {g : Nat} (hl : L.length < 1000000000) : scanFrom L g L.length = ([], L.length) := scan_no fun s k h => by
  obtain ⟨_, f2, f3, _⟩ := (frameAt_some hl).1 h
  have := frameL_pos g s
  omega
theorem scan_both (g : Nat) (hg : g < 4294967296) (a b : List (List UInt8)) (hl : (catF g a ++ catF g b).length < 1000000000) : scanFrom (catF g a ++ catF g b) g 0 = (a ++ b, (catF g a).length + (catF g b).length) := by
  have h1 := scan_cat g hg a (catF g a ++ catF g b) [] (catF g b) (by simp) hl
  have h2 := scan_cat g hg b (catF g a ++ catF g b) (catF g a) [] (by simp) hl
  have h3 := scan_last (g := g) hl
  rw [List.length_append] at h3
  simp only [List.length_nil, Nat.zero_add] at h1
  rw [h1, h2, h3]
  simp
theorem scan_torn (g g2 : Nat) (hg : g < 4294967296) (hg2 : g2 < 4294967296) (hne : g2 ≠ g) (a : List (List UInt8)) (t : List UInt8) (hl : (catF g a ++ frameL g2 t).length < 1000000000) : scanFrom (catF g a ++ frameL g2 t) g 0 = (a, (catF g a).length) := by
  have h1 := scan_cat g hg a (catF g a ++ frameL g2 t) [] (frameL g2 t) (by simp) hl
  have h2 : scanFrom (catF g a ++ frameL g2 t) g (catF g a).length = ([], (catF g a).length) := scan_no fun s k h => by
    have hf := frame_here (L := catF g a ++ frameL g2 t) (pre := catF g a) (rest := []) (s := t) (g := g2) (by simp) hg2 hl
    rw [hf] at h
    injection h with h
    injection h with h
    exact hne h
  simp only [List.length_nil, Nat.zero_add] at h1
  rw [h1, h2]
  simp
theorem catF_len (g : Nat) : ∀ (rows : List (List UInt8)), (∀ s ∈ rows, s.length ≤ 60) → (catF g rows).length ≤ rows.length * 80
  | [], _ => by simp [catF]
  | s :: rows, h => by
    have e : catF g (s :: rows) = frameL g s ++ catF g rows := by simp [catF]
    have ih := catF_len g rows (fun x hx => h x (by simp [hx]))
    have hs := h s (by simp)
    have h10 := uintL_len10 s.length (by omega)
    rw [e, List.length_append, frameL_len, textL_len, List.length_cons, Nat.succ_mul]
    omega

/-! ### rows of bytes that came in -/
theorem Rd.takeN {w : World} {B size n : Nat} {A : Option Addr} {xs : List Value} (h : Rd w B size A n xs) {k : Nat} (hk : k ≤ n) : Rd w B size A k (xs.take (k * size)) := by
  have hm : k * size ≤ n * size := Nat.mul_le_mul_right _ hk
  have h1 := h.1
  refine ⟨by rw [List.length_take]; omega, fun hp => ?_⟩
  rw [List.length_take] at hp
  obtain ⟨b, off, e, hb, hc⟩ := h.2 (by omega)
  refine ⟨b, off, e, hb, fun j hj => ?_⟩
  rw [List.length_take] at hj
  rw [hc j (by omega), List.getElem?_take, if_pos (by omega)]
def TxC (w : World) (B : Nat) (s : List UInt8) (vs : List Value) : Prop := ∃ A m c, vs = [.slice A m c] ∧ Rd w B 1 A m (bv s) ∧ m ≤ c ∧ c ≤ maxLen
theorem TxC.size {w : World} {B : Nat} : ∀ (s : List UInt8) vs, TxC w B s vs → vs.length = 1 := by rintro s vs ⟨A, m, c, rfl, _⟩; rfl
def IsTx (w : World) (v : Value) (rows : List (List UInt8)) : Prop := ∃ A n c xs, v = .slice A n c ∧ Rd w w.heap.size 1 A n xs ∧ Reps (TxC w w.heap.size) rows xs ∧ n ≤ c ∧ c ≤ maxLen
end Go.Proofs.Ytkcehoejcklmfaa.L
namespace Go.Proofs.Ytkcehoejcklmfaa
open Go.ChangeShapes Go.WideShapes Go.ChangeAt Go.RowKit Go.Deep L
section
variable {H : Type} {enc : TypeId × Value → H} {W : World} {base : Nat} {spare : Nat → Bool} {held : Bool}
theorem opens_tx : Opens enc Try.prog W base spare held 31 (TxC W W.heap.size) := by
  intro fuel cs x h
  obtain ⟨l, A, len, cap, e, hb, hlc, hcm⟩ := opens_bytes Try.underlying31 Try.underlying5 (by kernel_rfl) _ _ _ h
  exact ⟨l, A, len, cap, e, hb, hlc, hcm⟩
set_option maxRecDepth 100000 in
theorem open_uint8 {r : Reach} {b0 : Nat} {v : Value} {d : DataW H} {p : List MemPlace} (hv : Value.okWide Try.prog W r b0 62 v) (h : DataW.Trod enc Try.prog W base spare held 62 v d p) : ∃ l, IsTx W v l := by
  obtain ⟨l, A, n, c, xs, h1⟩ := open_rows_arg TxC.size (by omega) Try.underlying62 (by kernel_rfl) opens_tx hv h
  exact ⟨l, A, n, c, xs, h1⟩
end
end Go.Proofs.Ytkcehoejcklmfaa
