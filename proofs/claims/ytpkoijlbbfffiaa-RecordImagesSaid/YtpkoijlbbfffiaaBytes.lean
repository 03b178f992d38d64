/- Slices that are read: a slice value reads as a list of cells; bytes as cells; how that is kept from world to world. -/
import Derived.Test.YtpkoijlbbfffiaaBase
import Derived.Laws.OwnMore
import Derived.Deep.AppendLies
import Derived.Deep.Draws
import Derived.Laws.CopyOwn
import Derived.Maps.AppendAt
import Derived.OwnWalk
import Derived.Laws.BitsAllLaws
import Derived.Laws.BitsLemmas
namespace Go.Proofs.Ytpkoijlbbfffiaa
open Go.RowKit

/-- The bytes as cells. -/
def bv (l : List UInt8) : List Value := l.map fun c => .int .u8 (c.toNat : Int)
@[simp] theorem bv_length (l : List UInt8) : (bv l).length = l.length := by simp [bv]
theorem bv_get (l : List UInt8) (j : Nat) (h : j < l.length) : (bv l)[j]? = some (.int .u8 ((l[j]).toNat : Int)) := by simp [bv, h]
theorem bv_append (a b : List UInt8) : bv (a ++ b) = bv a ++ bv b := by simp [bv]
theorem bv_take (a : List UInt8) (k : Nat) : (bv a).take k = bv (a.take k) := by simp [bv, List.map_take]
theorem bv_drop (a : List UInt8) (k : Nat) : (bv a).drop k = bv (a.drop k) := by simp [bv, List.map_drop]
theorem bv_one (l : List UInt8) : ∀ u ∈ bv l, u.oneCell' = true := by intro u hu; simp [bv] at hu; obtain ⟨c, _, rfl⟩ := hu; rfl

/-- The slice (A, n), of elements of 'size' cells, reads as the cells xs and lies below block B. -/
def Rd (w : World) (B size : Nat) (A : Option Addr) (n : Nat) (xs : List Value) : Prop :=
  xs.length = n * size ∧ (0 < xs.length → ∃ b off, A = some ⟨b, off, none⟩ ∧ b < B ∧ ∀ j, j < xs.length → w.cell? ⟨b, off + j, none⟩ = xs[j]?)

section
variable {w w' : World} {B B' size n : Nat} {A : Option Addr} {xs : List Value}
theorem Rd.nil_ : Rd w B size A 0 [] := ⟨by simp, fun h => absurd h (by simp)⟩
theorem Rd.keep (h : Rd w B size A n xs) (hk : ∀ p : Addr, p.block < B → w'.cell? p = w.cell? p) : Rd w' B size A n xs :=
  ⟨h.1, fun hn => by
    obtain ⟨b, off, e, hb, hc⟩ := h.2 hn
    exact ⟨b, off, e, hb, fun j hj => (hk _ hb).trans (hc j hj)⟩⟩
theorem Rd.more (h : Rd w B size A n xs) (hB : B ≤ B') : Rd w B' size A n xs :=
  ⟨h.1, fun hn => by
    obtain ⟨b, off, e, hb, hc⟩ := h.2 hn
    exact ⟨b, off, e, Nat.lt_of_lt_of_le hb hB, hc⟩⟩
theorem Rd.below (h : Rd w B size A n xs) (hb : Below B w w') : Rd w' B size A n xs := h.keep fun _ hp => hb.cell hp
theorem Rd.next (h : Rd w w.heap.size size A n xs) (hb : Below w.heap.size w w') : Rd w' w'.heap.size size A n xs := (h.below hb).more hb.size
theorem Rd.drewN (h : Rd w B size A n xs) (k : Nat) : Rd (w.drewN k) B size A n xs := h
theorem Rd.drew (h : Rd w B size A n xs) : Rd w.drew B size A n xs := h
theorem Rd.alloc (h : Rd w B size A n xs) (hB : B ≤ w.heap.size) (o : Obj) : Rd (w.alloc o) B size A n xs := h.keep fun p hp => World.cell?_alloc_lt w o p (by omega)
theorem Rd.setCell (h : Rd w B size A n xs) {p : Addr} (hB : B ≤ p.block) (u : Value) : Rd (w.setCell p u) B size A n xs :=
  h.keep fun q hq => World.cell?_setCell_other w p q u (fun e => by subst e; omega)
theorem Rd.of_own {base : Nat} {e : TypeId} {c : Nat} (h : w.ownsRow base e size (.slice A n c) n xs) : Rd w w.heap.size size A n xs := by
  refine ⟨h.1, fun hn => ?_⟩
  have hn0 : 0 < n := by
    rcases Nat.eq_zero_or_pos n with h0 | h0
    · have := h.1; rw [h0] at this; omega
    · exact h0
  obtain ⟨g, cap, hv, _, hlt⟩ := h.form hn0
  have hA : A = some ⟨g, 0, none⟩ := by injection hv
  refine ⟨g, 0, hA, hlt, fun j hj => ?_⟩
  have := h.cells (g := g) (by rw [hv]; rfl) j _ (List.getElem?_eq_getElem hj)
  rw [List.getElem?_eq_getElem hj, ← this]
  by_cases h0 : j = 0 <;> simp [Addr.add, h0]
theorem Rd.pos (h : Rd w B 1 A n xs) {k : Nat} (hk : k < n) : ∃ b off, A = some ⟨b, off, none⟩ ∧ b < B ∧ ∀ j, j < n → w.cell? ⟨b, off + j, none⟩ = xs[j]? := by
  have hl : xs.length = n := by have := h.1; omega
  obtain ⟨b, off, e, hb, hc⟩ := h.2 (by omega)
  exact ⟨b, off, e, hb, fun j hj => hc j (by omega)⟩
theorem Rd.some_ (h : Rd w B 1 A n xs) {k : Nat} (hk : k < n) : ∃ b off, A = some ⟨b, off, none⟩ ∧ b < B := by
  obtain ⟨b, off, e, hb, _⟩ := h.pos hk
  exact ⟨b, off, e, hb⟩
end
/-- A byte of a slice that is read. -/
theorem Rd.byte {w : World} {B : Nat} {b off n : Nat} {l : List UInt8} (h : Rd w B 1 (some ⟨b, off, none⟩) n (bv l)) {k : Nat} (hk : k < l.length) :
    w.cell? ⟨b, off + k, none⟩ = some (.int .u8 ((l[k]).toNat : Int)) := by
  obtain ⟨b', off', e, _, hc⟩ := h.2 (by simp; omega)
  injection e with e
  injection e with e1 e2
  subst e1 e2
  rw [hc k (by simpa using hk), bv_get l k hk]

/-- A shorter slice of the same bytes. -/
theorem Rd.take_ {w : World} {B n : Nat} {A : Option Addr} {l : List UInt8} (h : Rd w B 1 A n (bv l)) (k : Nat) : Rd w B 1 A (min n k) (bv (l.take k)) := by
  have hl : l.length = n := by have := h.1; simp at this; omega
  refine ⟨by simp; omega, fun hp => ?_⟩
  simp at hp
  obtain ⟨b, off, e, hb, hc⟩ := h.2 (by simp; omega)
  refine ⟨b, off, e, hb, fun j hj => ?_⟩
  simp at hj
  rw [hc j (by simp; omega), ← bv_take, List.getElem?_take, if_pos (by omega)]


/-- The row of a literal. -/
theorem Rd.lit (w : World) (xs : List Value) (l : List UInt8) (hx : xs = bv l) (e : TypeId) (m : Nat × Nat) (n : Nat) (hn : l.length = n) :
    Rd (w.alloc (.cells xs.toArray e m)) (w.heap.size + 1) 1 (some ⟨w.heap.size, 0, none⟩) n (bv l) := by
  subst hx hn
  refine ⟨by simp, fun _ => ⟨w.heap.size, 0, rfl, by omega, fun j hj => ?_⟩⟩
  rw [Nat.zero_add, cell_of_row _ w.heap.size j _ e m (heap_alloc_new w _)]
  simp

theorem ba_append (a b : List UInt8) : (ByteArray.mk a.toArray) ++ (ByteArray.mk b.toArray) = ByteArray.mk (a ++ b).toArray := by
  apply ByteArray.ext
  simp

/-- The bytes from a place on. -/
theorem Rd.from_ {w : World} {B n k : Nat} {A : Option Addr} {l : List UInt8} (h : Rd w B 1 A n (bv l)) (hk : k < n) : Rd w B 1 (A.map (·.add k)) (n - k) (bv (l.drop k)) := by
  have hl : l.length = n := by have := h.1; simp at this; omega
  obtain ⟨b, off, rfl, hb, hc⟩ := h.2 (by simp; omega)
  refine ⟨by simp; omega, fun _ => ⟨b, off + k, ?_, hb, fun j hj => ?_⟩⟩
  · by_cases h0 : k = 0 <;> simp [Addr.add, h0]
  · simp at hj
    rw [Nat.add_assoc, hc (k + j) (by simp; omega), ← bv_drop, List.getElem?_drop]
theorem Rd.end_ {w : World} {B n : Nat} {A A' : Option Addr} {l : List UInt8} (h : Rd w B 1 A n (bv l)) : Rd w B 1 A' (n - n) (bv (l.drop n)) := by
  have hl : l.length = n := by have := h.1; simp at this; omega
  rw [Nat.sub_self, List.drop_of_length_le (by omega)]
  exact Rd.nil_

/-- A part in the middle. -/
theorem Rd.mid {w : World} {B n k u : Nat} {A : Option Addr} {l : List UInt8} (h : Rd w B 1 A n (bv l)) (hk : k + u ≤ n) : Rd w B 1 (A.map (·.add k)) u (bv ((l.drop k).take u)) := by
  rcases Nat.eq_zero_or_pos u with rfl | hu
  · exact Rd.nil_
  · have := (h.from_ (k := k) (by omega)).take_ u
    rwa [Nat.min_eq_right (by omega)] at this

theorem Rd.mid' {w : World} {B n k u b off : Nat} {l : List UInt8} (h : Rd w B 1 (some ⟨b, off, none⟩) n (bv l)) (hk : k + u ≤ n) : Rd w B 1 (some ⟨b, off + k, none⟩) u (bv ((l.drop k).take u)) := by
  have := h.mid hk
  by_cases h0 : k = 0
  · subst h0; simpa [Addr.add] using this
  · simpa [Addr.add, h0] using this

/-! ### bits on numbers that fit -/
theorem or_shift (i y x : Nat) (h : x < 2 ^ i) : (y * 2 ^ i) ||| x = y * 2 ^ i + x := by
  rw [← Nat.shiftLeft_eq, Nat.shiftLeft_add_eq_or_of_lt h]
end Go.Proofs.Ytpkoijlbbfffiaa
