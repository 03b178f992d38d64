/- Texts of the proof, joined: Open, Reps, Laws2, LexAllP, LexSame, LexAll, LexU, ValPlain3, ValPlain4, LexRefN. -/
import Derived.Test.YtnbmpfdffoidaaaGreatSp01
import Derived.Test.YtnbmpfdffoidaaaGreatSp02
import Derived.Test.YtnbmpfdffoidaaaGreatSp04
import Derived.Test.YtnbmpfdffoidaaaGreatSp05
import Derived.ProofKit
import Derived.OpenShut
import Derived.Deep.Slices
import Derived.Deep.Fields
import Derived.ChangeSame
import Derived.Deep.DeepCutAuto
import Derived.WalkKit
set_option linter.unusedVariables false
set_option linter.unusedSimpArgs false
set_option maxHeartbeats 8000000
set_option maxRecDepth 100000
namespace Go.Proofs.YtnbmpfdffoidaaaGreat
open Go.ChangeShapes Go.WideShapes Go.ChangeAt Go.RowKit
def IsB (W : World) (a : Option Addr) (len cap : Nat) (l : List UInt8) : Prop := Rd W W.heap.size 1 a len (bv l) ∧ len ≤ cap ∧ cap ≤ maxLen
theorem open_bytes {H : Type} {enc : TypeId × Value → H} {P : Program} {W : World} {base : Nat} {spare : Nat → Bool} {held : Bool} {r : Reach} {b0 : Nat} {t e : TypeId} {v : Value} {d : DataW H} {p : List MemPlace}
  (ht : P.underlying t = some (.slice e)) (he : P.underlying e = some (.int .u8)) (hc : P.cellsOf e = 1) (hv : Value.okWide P W r b0 t v) (h : DataW.Trod enc P W base spare held t v d p) :
  ∃ a len cap l, v = .slice a len cap ∧ IsB W a len cap l := by
 obtain ⟨a, len, cap, rfl⟩ := okWide_slice ht hv
 obtain ⟨fuel, hf⟩ := h
 rcases open_ints ht he hc hf with ⟨hcs, _⟩ | ⟨x, l, c, zs, hcs, _, hl, hm, hz, _, hcell, hwz⟩
 ·simp [Value.cells] at hcs
  obtain ⟨rfl, rfl, rfl⟩ := hcs
  exact ⟨none, 0, 0, [], rfl, Rd.nil_, Nat.le_refl _, Nat.zero_le _⟩
 ·simp [Value.cells] at hcs
  obtain ⟨rfl, rfl, rfl⟩ := hcs
  have hzl : len ≤ zs.length := by rw [hz]; split <;> omega
  refine ⟨some x, len, cap, (zs.take len).map fun n => UInt8.ofNat n.toNat, rfl, ⟨by simp; omega, fun hp => ?_⟩, hl, hm⟩
  have hp' : 0 < len := by simp at hp; omega
  have h0 := hcell 0 (by omega)
  obtain ⟨b, off, spot⟩ := x
  have hspot : spot = none := by simpa [Addr.add] using World.cell?_spot h0
  subst hspot
  refine ⟨b, off, rfl, by simpa [Addr.add] using World.block_lt_of_cell? W _ h0, fun j hj => ?_⟩
  have hj' : j < len := by simp at hj; omega
  have hjz : j < zs.length := by omega
  have hcj := hcell j hjz
  have hadd : (⟨b, off, none⟩ : Addr).add j = ⟨b, off + j, none⟩ := by
   by_cases h0 : j = 0 <;> simp [Addr.add, h0]
  rw [hadd] at hcj
  have hb := bounds_u8 (hwz zs[j] (List.getElem_mem hjz))
  rw [hcj]
  simp [bv, hj', hjz]
  omega
end Go.Proofs.YtnbmpfdffoidaaaGreat
namespace Go.Proofs.YtnbmpfdffoidaaaGreat
open Go.RowKit
def Reps {α : Type} (rep : α → List Value → Prop) : List α → List Value → Prop
 | [], xs => xs = []
 | a :: l, xs => ∃ vs ys, xs = vs ++ ys ∧ rep a vs ∧ Reps rep l ys
section
variable {α : Type} {rep rep' : α → List Value → Prop} {size : Nat}
theorem Reps.imp (hi : ∀ a vs, rep a vs → rep' a vs) : ∀ {l : List α} {xs : List Value}, Reps rep l xs → Reps rep' l xs
 | [], _, h => h
 | _ :: _, _, ⟨vs, ys, e, h, k⟩ => ⟨vs, ys, e, hi _ _ h, k.imp hi⟩
theorem Reps.append : ∀ {l : List α} {xs : List Value} {m : List α} {ys : List Value}, Reps rep l xs → Reps rep m ys → Reps rep (l ++ m) (xs ++ ys)
 | [], _, _, _, h, k => by simp only [Reps] at h; subst h; simpa using k
 | _ :: _, _, _, _, ⟨vs, zs, e, h, k'⟩, k => by subst e; exact ⟨vs, _, by rw [List.append_assoc], h, k'.append k⟩
theorem Reps.one {a : α} {vs : List Value} (h : rep a vs) : Reps rep [a] vs := ⟨vs, [], by simp, h, rfl⟩
theorem Reps.length (hs : ∀ a vs, rep a vs → vs.length = size) : ∀ {l : List α} {xs : List Value}, Reps rep l xs → xs.length = l.length * size
 | [], _, h => by simp only [Reps] at h; subst h; simp
 | _ :: l, _, ⟨vs, ys, e, h, k⟩ => by
  subst e
  rw [List.length_append, hs _ _ h, k.length hs, List.length_cons, Nat.succ_mul, Nat.add_comm]
theorem Reps.get (hs : ∀ a vs, rep a vs → vs.length = size) : ∀ {l : List α} {xs : List Value}, Reps rep l xs → ∀ i (hi : i < l.length), ∃ vs, rep l[i] vs ∧ ∀ j, j < size → xs[i * size + j]? = vs[j]?
 | [], _, _, i, hi => absurd hi (by simp)
 | _ :: _, _, ⟨vs, ys, e, h, k⟩, 0, _ => by
  subst e
  exact ⟨vs, h, fun j hj => by rw [Nat.zero_mul, Nat.zero_add, List.getElem?_append_left (by rw [hs _ _ h]; exact hj)]⟩
 | _ :: l, _, ⟨vs, ys, e, h, k⟩, i + 1, hi => by
  subst e
  obtain ⟨us, h1, h2⟩ := k.get hs i (by simpa using hi)
  refine ⟨us, h1, fun j hj => ?_⟩
  rw [List.getElem?_append_right (by rw [hs _ _ h, Nat.succ_mul]; omega), hs _ _ h, ← h2 j hj]
  congr 1
  rw [Nat.succ_mul]
  omega
theorem Reps.take (hs : ∀ a vs, rep a vs → vs.length = size) : ∀ {l : List α} {xs : List Value} (k : Nat), Reps rep l xs → Reps rep (l.take k) (xs.take (k * size))
 | [], _, k, h => by simp only [Reps] at h; subst h; simp [Reps]
 | _ :: _, _, 0, _ => by simp [Reps]
 | _ :: _, _, k + 1, ⟨vs, ys, e, h, q⟩ => by
  subst e
  refine ⟨vs, ys.take (k * size), ?_, h, q.take hs k⟩
  rw [List.take_append, hs _ _ h, List.take_of_length_le (by rw [hs _ _ h, Nat.succ_mul]; omega)]
  congr 2
  rw [Nat.succ_mul]
  omega
theorem Reps.drop (hs : ∀ a vs, rep a vs → vs.length = size) : ∀ {l : List α} {xs : List Value} (k : Nat), Reps rep l xs → Reps rep (l.drop k) (xs.drop (k * size))
 | [], _, k, h => by simp only [Reps] at h; subst h; simp [Reps]
 | _ :: _, _, 0, h => by simpa using h
 | _ :: _, _, k + 1, ⟨vs, ys, e, h, q⟩ => by
  subst e
  have := q.drop hs k
  have hz : vs.drop ((k + 1) * size) = [] := List.drop_of_length_le (by rw [hs _ _ h, Nat.succ_mul]; omega)
  rw [List.drop_succ_cons, List.drop_append, hs _ _ h, hz, List.nil_append]
  rwa [show (k + 1) * size - size = k * size by rw [Nat.succ_mul]; omega]
theorem Reps.all {p : Value → Prop} (hp : ∀ a vs, rep a vs → ∀ u ∈ vs, p u) : ∀ {l : List α} {xs : List Value}, Reps rep l xs → ∀ u ∈ xs, p u
 | [], _, h, u, hu => by simp only [Reps] at h; subst h; simp at hu
 | _ :: _, _, ⟨vs, ys, e, h, k⟩, u, hu => by
  subst e
  rcases List.mem_append.1 hu with h1 | h1
  ·exact hp _ _ h u h1
  ·exact k.all hp u h1
end
theorem Rd.elem {α : Type} {rep : α → List Value → Prop} {size : Nat} (hs : ∀ a vs, rep a vs → vs.length = size) {w : World} {B n : Nat} {A : Option Addr} {xs : List Value} {l : List α} (h : Rd w B size A n xs) (hr : Reps rep l xs)
  {i : Nat} (hi : i < l.length) (h0 : 0 < size) : ∃ b off vs, A = some ⟨b, off, none⟩ ∧ b < B ∧ rep l[i] vs ∧ ∀ j, j < size → w.cell? ⟨b, off + i * size + j, none⟩ = vs[j]? := by
 have hl := hr.length hs
 have hmul : (i + 1) * size ≤ l.length * size := Nat.mul_le_mul_right _ hi
 rw [Nat.succ_mul] at hmul
 obtain ⟨b, off, e, hb, hc⟩ := h.2 (by omega)
 obtain ⟨vs, h1, h2⟩ := hr.get hs i hi
 exact ⟨b, off, vs, e, hb, h1, fun j hj => by rw [Nat.add_assoc, hc _ (by omega), h2 j hj]⟩
theorem Rd.len_of {α : Type} {rep : α → List Value → Prop} {size : Nat} (hs : ∀ a vs, rep a vs → vs.length = size) {w : World} {B n : Nat} {A : Option Addr} {xs : List Value} {l : List α} (h : Rd w B size A n xs) (hr : Reps rep l xs) (h0 : 0 < size) : l.length = n := by
 have h1 := hr.length hs
 rw [h.1] at h1
 exact (Nat.eq_of_mul_eq_mul_right h0 h1).symm
section
open Go.ChangeShapes Go.WideShapes Go.ChangeAt Go.Deep
variable {H : Type} {enc : TypeId × Value → H} {P : Program} {W : World} {base : Nat} {spare : Nat → Bool} {held : Bool}
def Opens {α : Type} (enc : TypeId × Value → H) (P : Program) (W : World) (base : Nat) (spare : Nat → Bool) (held : Bool) (t : TypeId) (rep : α → List Value → Prop) : Prop :=
 ∀ fuel cs x, DataW.trod enc P W base spare held fuel t cs = some x → ∃ a, rep a cs
theorem opens_rows {α : Type} {rep : α → List Value → Prop} {size : Nat} (hs : ∀ a vs, rep a vs → vs.length = size) (h0 : 0 < size) {t e : TypeId} (ht : P.underlying t = some (.slice e)) (hC : P.cellsOf e = size) (hel : Opens enc P W base spare held e rep) :
  Opens enc P W base spare held t fun (l : List α) cs => ∃ A len cap xs, cs = [.slice A len cap] ∧ Rd W W.heap.size size A len xs ∧ Reps rep l xs ∧ len ≤ cap ∧ cap ≤ maxLen := by
 intro fuel cs x h
 rcases open_slice ht h with ⟨hcs, _⟩ | ⟨a, len, cap, m, n, D, Pl, hcs, hb, hl, hm, hmm, hx, hi⟩
 ·exact ⟨[], none, 0, 0, [], hcs, Rd.nil_, rfl, Nat.le_refl _, Nat.zero_le _⟩
 ·have hlm : len ≤ m := by rw [hmm]; split <;> omega
  rw [hC] at hi
  have each : ∀ k, k ≤ len → ∃ (l : List α) (xs : List Value), Reps rep l xs ∧ l.length = k ∧ ∀ j, j < k * size → W.cell? (a.add j) = xs[j]? := by
   intro k
   induction k with
   | zero => intro _; exact ⟨[], [], rfl, rfl, fun j hj => by simp at hj⟩
   | succ k ih =>
    intro hk
    obtain ⟨l, xs, h1, h2, h3⟩ := ih (by omega)
    obtain ⟨cs', hc, ht'⟩ := hi k (by omega)
    obtain ⟨y, hy⟩ := hel _ _ _ ht'
    obtain ⟨_, hcl, hat⟩ := World.cells?_some hc
    refine ⟨l ++ [y], xs ++ cs', h1.append (.one hy), by simp [h2], fun j hj => ?_⟩
    have hxl := h1.length hs
    rw [h2] at hxl
    rw [Nat.succ_mul] at hj
    by_cases hlt : j < k * size
    ·rw [h3 j hlt, List.getElem?_append_left (by omega)]
    ·rw [List.getElem?_append_right (by omega), hxl, ← hat (j - k * size) (by omega), Go.Deep.add_add]
     congr 2
     omega
  obtain ⟨l, xs, h1, h2, h3⟩ := each len (Nat.le_refl _)
  have hxl := h1.length hs
  rw [h2] at hxl
  refine ⟨l, some a, len, cap, xs, hcs, ⟨hxl, fun hp => ?_⟩, h1, hl, hm⟩
  have hc0 := h3 0 (by omega)
  rw [List.getElem?_eq_getElem hp] at hc0
  obtain ⟨b, off, spot⟩ := a
  have hspot : spot = none := by simpa [Addr.add] using World.cell?_spot hc0
  subst hspot
  refine ⟨b, off, rfl, by simpa [Addr.add] using World.block_lt_of_cell? W _ hc0, fun j hj => ?_⟩
  have hadd : (⟨b, off, none⟩ : Addr).add j = ⟨b, off + j, none⟩ := by
   by_cases h0 : j = 0 <;> simp [Addr.add, h0]
  rw [← hadd]
  exact h3 j (by omega)
theorem opens_int {t : TypeId} {k : IntKind} (ht : P.underlying t = some (.int k)) : Opens enc P W base spare held t fun (n : Int) cs => cs = [.int k n] ∧ (Lit.int k n).wf = true := by
 intro fuel cs x h
 obtain ⟨n, h1, _, h3⟩ := DataW.trod_int ht h
 exact ⟨n, h1, h3⟩
theorem opens_bool {t : TypeId} (ht : P.underlying t = some .bool) : Opens enc P W base spare held t fun (b : Bool) cs => cs = [.bool b] := by
 intro fuel cs x h
 obtain ⟨n, h1, _⟩ := DataW.trod_bool ht h
 exact ⟨n, h1⟩
theorem opens_string {t : TypeId} (ht : P.underlying t = some .string) : Opens enc P W base spare held t fun (s : List UInt8) cs => cs = [.string ⟨s.toArray⟩] ∧ s.length ≤ maxLen := by
 intro fuel cs x h
 obtain ⟨s, h1, _, h3⟩ := DataW.trod_string ht h
 refine ⟨s.data.toList, by rw [h1], ?_⟩
 rw [Array.length_toList]
 exact h3
theorem opens_bytes {t e : TypeId} (ht : P.underlying t = some (.slice e)) (he : P.underlying e = some (.int .u8)) (hc : P.cellsOf e = 1) :
  Opens enc P W base spare held t fun (l : List UInt8) cs => ∃ A len cap, cs = [.slice A len cap] ∧ IsB W A len cap l := by
 intro fuel cs x h
 obtain ⟨l, A, len, cap, xs, h1, h2, h3, h4, h5⟩ := opens_rows (rep := fun (n : Int) cs => cs = [.int .u8 n] ∧ (Lit.int .u8 n).wf = true) (size := 1) (by rintro _ _ ⟨rfl, _⟩; rfl) (by omega) ht hc (opens_int he) _ _ _ h
 refine ⟨l.map fun n => UInt8.ofNat n.toNat, A, len, cap, h1, ?_, h4, h5⟩
 have : xs = bv (l.map fun n => UInt8.ofNat n.toNat) := by
  clear h1 h2 h4 h5 h
  induction l generalizing xs with
  | nil => simp only [Reps] at h3; simp [h3, bv]
  | cons n l ih =>
   obtain ⟨vs, ys, rfl, ⟨rfl, hw⟩, k⟩ := h3
   rw [ih _ k]
   have hb := bounds_u8 hw
   simp [bv]
   omega
 rw [← this]
 exact h2
theorem opens_fields {t : TypeId} {fs : Array Field} {fuel : Nat} {cs : List Value} {x : DataW H × List MemPlace} (ht : P.underlying t = some (.struct fs)) (hone : oneCellFields P fs = true) (h : DataW.trod enc P W base spare held fuel t cs = some x) :
  cs.length = P.cellsOf t ∧ ∃ n, ∀ (j : Nat) (f : Field) (v : Value), fs[j]? = some f → cs[j]? = some v → ∃ y, DataW.trod enc P W base spare held n f.type [v] = some y := by
 obtain ⟨xs, n, _, _, hl, hlen, hf⟩ := DataW.trod_struct ht h
 refine ⟨hl, n, fun j f v hj hv => ?_⟩
 obtain ⟨ho, hk⟩ := hone_of hone j f hj
 have h1 := hf j f hj
 rw [ho, hk] at h1
 have hjl : j < fs.size := (Array.getElem?_eq_some_iff.1 hj).1
 obtain ⟨hjc, hvv⟩ := List.getElem?_eq_some_iff.1 hv
 rw [List.drop_eq_getElem_cons hjc, hvv, List.getElem?_eq_getElem (by omega)] at h1
 exact ⟨_, h1⟩
theorem open_rows_arg {α : Type} {rep : α → List Value → Prop} {size : Nat} (hs : ∀ a vs, rep a vs → vs.length = size) (h0 : 0 < size) {t e : TypeId} (ht : P.underlying t = some (.slice e)) (hC : P.cellsOf e = size) (hel : Opens enc P W base spare held e rep)
  {r : Reach} {b0 : Nat} {v : Value} {d : DataW H} {p : List MemPlace} (hv : Value.okWide P W r b0 t v) (h : DataW.Trod enc P W base spare held t v d p) : ∃ (l : List α) (A : Option Addr) (len cap : Nat) (xs : List Value), v = .slice A len cap ∧ Rd W W.heap.size size A len xs ∧ Reps rep l xs ∧ len ≤ cap ∧ cap ≤ maxLen := by
 obtain ⟨A, n, c, rfl⟩ := okWide_slice ht hv
 obtain ⟨fuel, hf⟩ := h
 obtain ⟨l, A', len, cap, xs, e, h1, h2, h3, h4⟩ := opens_rows hs h0 ht hC hel _ _ _ hf
 simp [Value.cells] at e
 obtain ⟨rfl, rfl, rfl⟩ := e
 exact ⟨l, _, _, _, xs, rfl, h1, h2, h3, h4⟩
end
end Go.Proofs.YtnbmpfdffoidaaaGreat
namespace Go.Proofs.YtnbmpfdffoidaaaGreat
open Go.RowKit Go.Lib
section
variable {P : Program}
theorem Rd.made (w : World) (cs : List Value) {e size n b : Nat} (hn : cs.length = n * size) (hb : b = w.heap.size) : Rd (w.alloc (.cells cs.toArray e)) (w.heap.size + 1) size (some ⟨b, 0, none⟩) n cs := by
 subst hb
 refine ⟨hn, fun _ => ⟨w.heap.size, 0, rfl, by omega, fun j hj => ?_⟩⟩
 rw [Nat.zero_add, cell_of_row _ w.heap.size j _ e _ (heap_alloc_new w _)]
 simp
end
end Go.Proofs.YtnbmpfdffoidaaaGreat
namespace Go.Proofs.YtnbmpfdffoidaaaGreat.X
open Go.RowKit O V S
theorem tokL_pos (t : List UInt8) (h : (tokL t).e = 0) : 0 < (tokL t).n ∧ (tokL t).n ≤ t.length := by
 match t with
 | [] => simp [tokL] at h
 | c :: r =>
  rw [tokL_cons] at h ⊢
  split
  ·rename_i hs
   rw [if_pos hs] at h
   split
   ·rename_i hb; rw [if_pos hb] at h; simp at h
   ·have hw : wordC c = true := by simp [wordC, hs]
    refine ⟨?_, runLen_le wordC (c :: r)⟩
    simp only [runLen, hw, if_true]; omega
  ·rename_i hs
   rw [if_neg hs] at h
   split
   ·rename_i hd
    rw [if_pos hd] at h
    split
    ·refine ⟨?_, runLen_le digitC (c :: r)⟩
     simp only [runLen, hd, if_true]; omega
    ·rename_i hb; rw [if_neg hb] at h; simp at h
   ·rename_i hd
    rw [if_neg hd] at h
    split
    ·rename_i hq
     rw [if_pos hq] at h
     cases hQ : quoS ((c :: r).drop 1) 1 ⟨0, [], none⟩ with
     | none => unfold quoL at h; rw [hQ] at h; simp at h
     | some Q =>
      cases hb : Q.bad with
      | some k => rw [quoL_bad hQ hb] at h; simp at h
      | none =>
       have h1 := quoL_ok hQ hb
       have h2 := (qs_lt _ _ (Nat.le_refl _) _ _ _ hQ).2.1
       simp at h2
       rw [h1] at h ⊢
       split
       ·rename_i hbig; rw [if_pos hbig] at h; simp at h
       ·simp; omega
    ·rename_i hq
     rw [if_neg hq] at h
     split
     ·rename_i h0; rw [if_pos h0] at h; simp at h
     ·rename_i h0
      exact ⟨by show 0 < signL (c :: r); omega, sign_le (c :: r) (by simp)⟩
theorem tokE : Elem Tryz.prog 56 93 8 80 (.agg #[.int .i64 0, .string ByteArray.empty, .int .i64 0, .int .i64 0, .string ByteArray.empty, .int .i64 0, .int .i64 0, .int .i64 0]) := by
 obtain ⟨i, hi, h1, h2, h3⟩ := info_parts (show (Tryz.prog.info? 93).map (fun i => (i.zero, i.size, i.bytes)) = some (some (.agg #[.int .i64 0, .string ByteArray.empty, .int .i64 0, .int .i64 0, .string ByteArray.empty, .int .i64 0, .int .i64 0, .int .i64 0]), 8, 80) by kernel_rfl)
 exact ⟨Tryz.underlying56, i, hi, h1, h2, h3, rfl, by omega⟩
def TkC (s : List UInt8) (t : Tk) (vs : List Value) : Prop := vs = tkCells t.k t.text t.v s t.i
theorem TkC.size {s : List UInt8} (t : Tk) (vs : List Value) (h : TkC s t vs) : vs.length = 8 := by rw [h]; rfl
end Go.Proofs.YtnbmpfdffoidaaaGreat.X
namespace Go.Proofs.YtnbmpfdffoidaaaGreat.X
open Go.RowKit O V S
theorem Val.same {x y : Val} (h1 : x.k = y.k) (h2 : x.n = y.n) (h3 : x.s = y.s) : x = y := by cases x; cases y; simp_all
instance : DecidableEq Val := fun a b => if h : a.k = b.k ∧ a.n = b.n ∧ a.s = b.s then isTrue (Val.same h.1 h.2.1 h.2.2) else isFalse (fun e => h (by subst e; exact ⟨rfl, rfl, rfl⟩))
def core (t : Tk) : Int × List UInt8 × Val := (t.k, t.text, t.v)
def sameT (a b : List Tk) : Bool := decide (a.map core = b.map core)
def TkD (t : Tk) (vs : List Value) : Prop := ∃ p q r : Int, vs = [.int .i64 t.k, .string ⟨t.text.toArray⟩, .int .i64 t.v.k, .int .i64 t.v.n, .string ⟨t.v.s.toArray⟩, .int .i64 p, .int .i64 q, .int .i64 r]
theorem TkD.one : ∀ (t : Tk) (vs : List Value), TkD t vs → ∀ u ∈ vs, u.oneCell' = true := by rintro t vs ⟨p, q, r, rfl⟩ u hu; simp at hu; rcases hu with rfl | rfl | rfl | rfl | rfl | rfl | rfl | rfl <;> rfl
theorem TkD.size : ∀ (t : Tk) (vs : List Value), TkD t vs → vs.length = 8 := by rintro t vs ⟨p, q, r, rfl⟩; rfl
theorem TkD.of {s : List UInt8} : ∀ (t : Tk) (vs : List Value), TkC s t vs → TkD t vs := by rintro t vs rfl; exact ⟨_, _, _, rfl⟩
structure TRow (w : World) (A : Option Addr) (n : Nat) (l : List Tk) : Prop where
 rd : ∃ xs, Rd w w.heap.size 8 A n xs ∧ Reps TkD l xs
 n : n ≤ 100000
theorem TRow.len {w : World} {A : Option Addr} {n : Nat} {l : List Tk} (h : TRow w A n l) : l.length = n := by
 obtain ⟨xs, h1, h2⟩ := h.rd
 exact h1.len_of TkD.size h2 (by omega)
theorem TRow.next {w W : World} {A : Option Addr} {n : Nat} {l : List Tk} (h : TRow w A n l) (b : Below w.heap.size w W) : TRow W A n l := by
 obtain ⟨xs, h1, h2⟩ := h.rd
 exact ⟨⟨xs, h1.next b, h2⟩, h.n⟩
theorem TRow.at_ {w : World} {A : Option Addr} {n : Nat} {l : List Tk} (h : TRow w A n l) {k : Nat} (hk : k < l.length) : ∃ b off, A = some ⟨b, off, none⟩ ∧ b < w.heap.size ∧
  ∀ W, Below w.heap.size w W → (W.cell? ⟨b, off + k * 8, none⟩ = some (.int .i64 l[k].k) ∧ W.cell? ⟨b, off + k * 8 + 1, none⟩ = some (.string ⟨l[k].text.toArray⟩)) ∧ W.cell? ⟨b, off + k * 8 + 2, none⟩ = some (.int .i64 l[k].v.k) ∧ W.cell? ⟨b, off + k * 8 + 3, none⟩ = some (.int .i64 l[k].v.n) ∧ W.cell? ⟨b, off + k * 8 + 4, none⟩ = some (.string ⟨l[k].v.s.toArray⟩) := by
 obtain ⟨xs, h1, h2⟩ := h.rd
 obtain ⟨b, off, vs, e, hb, ⟨p, q, r, rfl⟩, hc⟩ := h1.elem TkD.size h2 hk (by omega)
 refine ⟨b, off, e, hb, fun W bW => ⟨⟨?_, ?_⟩, ?_, ?_, ?_⟩⟩
 ·exact (bW.cell (p := ⟨b, off + k * 8 + 0, none⟩) hb).trans (hc 0 (by omega))
 ·exact (bW.cell (p := ⟨b, off + k * 8 + 1, none⟩) hb).trans (hc 1 (by omega))
 ·exact (bW.cell (p := ⟨b, off + k * 8 + 2, none⟩) hb).trans (hc 2 (by omega))
 ·exact (bW.cell (p := ⟨b, off + k * 8 + 3, none⟩) hb).trans (hc 3 (by omega))
 ·exact (bW.cell (p := ⟨b, off + k * 8 + 4, none⟩) hb).trans (hc 4 (by omega))
theorem vneq_yes {x y : Val} (h : x ≠ y) (w : World) : (binOp .neq 40 (.agg #[.int .i64 x.k, .int .i64 x.n, .string ⟨x.s.toArray⟩]) (.agg #[.int .i64 y.k, .int .i64 y.n, .string ⟨y.s.toArray⟩])).run Tryz.prog w = .ok (.bool true) w := by
 go_simp
 exact fun h1 h2 h3 => h (Val.same h1 h2 h3)
theorem vneq_no (x : Val) (w : World) : (binOp .neq 40 (.agg #[.int .i64 x.k, .int .i64 x.n, .string ⟨x.s.toArray⟩]) (.agg #[.int .i64 x.k, .int .i64 x.n, .string ⟨x.s.toArray⟩])).run Tryz.prog w = .ok (.bool false) w := by
 go_simp
theorem sneq_yes {x y : List UInt8} (h : x ≠ y) (w : World) : (binOp .neq 9 (.string ⟨x.toArray⟩) (.string ⟨y.toArray⟩)).run Tryz.prog w = .ok (.bool true) w := by
 go_simp
theorem sneq_no (x : List UInt8) (w : World) : (binOp .neq 9 (.string ⟨x.toArray⟩) (.string ⟨x.toArray⟩)).run Tryz.prog w = .ok (.bool false) w := by
 go_simp
end Go.Proofs.YtnbmpfdffoidaaaGreat.X
namespace Go.Proofs.YtnbmpfdffoidaaaGreat.X
open Go.RowKit O V S
theorem skip_at {s : List UInt8} {i : Nat} (h : i ≤ s.length) : skip (s.drop i) = s.drop (s.length - (skip (s.drop i)).length) ∧ i ≤ s.length - (skip (s.drop i)).length ∧ s.length - (skip (s.drop i)).length ≤ s.length := by
 obtain ⟨k, hk, e⟩ := skip_suffix _ (s.drop i) (Nat.le_refl _)
 rw [List.length_drop] at hk
 have hj : s.length - (skip (s.drop i)).length = i + k := by rw [e]; simp; omega
 rw [hj]
 exact ⟨by rw [e, List.drop_drop], by omega, by omega⟩
section
variable {s : List UInt8} {i j f : Nat}
theorem lex_end (hj : s.length - (skip (s.drop i)).length = s.length) : lexS s (f + 1) i = ([], 0, 0) := by
 rcases Nat.eq_zero_or_pos (skip (s.drop i)).length with h | h
 ·unfold lexS; simp only [h, if_true]
 ·have hs : s.length = 0 := by omega
  have : (skip (s.drop i)).length = 0 := by
   have := skip_len _ (s.drop i) (Nat.le_refl _)
   simp at this; omega
  omega
theorem lex_err (hi : i ≤ s.length) (hj : s.length - (skip (s.drop i)).length = j) (hlt : j < s.length) (he : (tokL (s.drop j)).e ≠ 0) : lexS s (f + 1) i = ([], (tokL (s.drop j)).e, j + (tokL (s.drop j)).off) := by
 have h1 := (skip_at hi).1
 have h0 : (skip (s.drop i)).length ≠ 0 := by omega
 rw [hj] at h1
 unfold lexS
 simp only [h0, if_false, hj]
 rw [h1, if_pos he]
theorem lex_ok (hi : i ≤ s.length) (hj : s.length - (skip (s.drop i)).length = j) (hlt : j < s.length) (he : (tokL (s.drop j)).e = 0) : lexS s (f + 1) i = (⟨(tokL (s.drop j)).k, (s.drop j).take (tokL (s.drop j)).n, (tokL (s.drop j)).v, j⟩ :: (lexS s f (j + (tokL (s.drop j)).n)).1, (lexS s f (j + (tokL (s.drop j)).n)).2) := by
 have h1 := (skip_at hi).1
 have h0 : (skip (s.drop i)).length ≠ 0 := by omega
 rw [hj] at h1
 conv => lhs; unfold lexS
 simp only [h0, if_false, hj]
 rw [h1, if_neg (by simp [he])]
end
theorem own_keepL {w w' : World} {base e size n g : Nat} {v : Value} {xs : List Value} (h : w.ownsRow base e size v n xs) (hg : w.grownBy w' (some g)) (hb : g < base) : w'.ownsRow base e size v n xs :=
 h.kept hg (.inr (fun e => by have := (h.lt _ e).1; omega))
theorem below_gb {w a b : World} {g : Nat} (h : Below w.heap.size w a) (k : a.grownBy b (some g)) (hg : w.heap.size ≤ g) : Below w.heap.size w b :=
 ⟨k.os.trans h.os, k.tape.trans h.tape, k.output.trans h.output, Nat.le_trans h.size k.size, fun i hi => (k.block i (Nat.lt_of_lt_of_le hi h.size) (fun e => by injection e with e; omega)).trans (h.block i hi)⟩
theorem own_setL {w : World} {base e size n b j : Nat} {v : Value} {xs : List Value} (h : w.ownsRow base e size v n xs) (u : Value) (hb : b < base) : (w.setCell ⟨b, j, none⟩ u).ownsRow base e size v n xs :=
 own_keepL h (gb_set w b j u) hb
def RetAll (s : List UInt8) (b : Nat) (e : Ending) (w' : World) : Prop :=
 if s.length > 16384 then e = .returned (.tuple #[.slice none 0 0, .int .i64 2, plc s 0])
 else if (lexS s (s.length + 1) 0).2.1 ≠ 0 then e = .returned (.tuple #[.slice none 0 0, .int .i64 (lexS s (s.length + 1) 0).2.1, plc s (clampI s ((lexS s (s.length + 1) 0).2.2 : Nat))])
 else ∃ A n c xs, e = .returned (.tuple #[.slice A n c, .int .i64 0, pv 0 0 0]) ∧ w'.ownsRow b 93 8 (.slice A n c) n xs ∧ Reps (TkC s) (lexS s (s.length + 1) 0).1 xs
theorem all_any (s : List UInt8) (w : World) (hs : s.length ≤ 20000) : Calls Tryz.prog 15 #[.string ⟨s.toArray⟩] w fun e w' => RetAll s (w.heap.size + 2) e w' ∧ Below w.heap.size w w' := by
 have hsz : (ByteArray.mk s.toArray).size = s.length := by simp [ByteArray.size]
 go_enter Tryz.func15, Tryz.ntmps15
 by_cases hbig : s.length > 16384
 ·have g1 : decide ((s.length : Int) > 16384) = true := by simp; omega
  have g1' : decide (16384 < (s.length : Int)) = true := by simp; omega
  have HB := Lib.hid hbig
  clear hbig
  go_wp2_with fail
  refine (at_any s 0 _ hs).mono ?_; rintro e w1 ⟨rfl, b1⟩
  have X0 := box_next (heap_alloc_new w (.cells #[.int .i64 0, .int .i64 0, .int .i64 0] 29)) b1
  have B1 := bthen ((Below.refl _ _).alloc (Nat.le_refl _) _) b1
  have c0 : w1.cell? ⟨w.heap.size, 0, none⟩ = some (.int .i64 0) := by rw [Lib.cell_of_heap X0]; rfl
  have c1 : w1.cell? ⟨w.heap.size, 1, none⟩ = some (.int .i64 0) := by rw [Lib.cell_of_heap X0]; rfl
  have c2 : w1.cell? ⟨w.heap.size, 2, none⟩ = some (.int .i64 0) := by rw [Lib.cell_of_heap X0]; rfl
  have f0 := Lib.frozen_of_heap X0 0
  have f1 := Lib.frozen_of_heap X0 1
  have f2 := Lib.frozen_of_heap X0 2
  have hcl : clampI s 0 = 0 := by unfold clampI; rw [if_neg (by omega), if_neg (by omega)]; rfl
  rw [hcl]
  unfold plc pv
  go_wp2_with fail
  refine bodyPost_ret (v := .tuple #[.slice none 0 0, .int .i64 2, plc s 0]) (by simp [results, Tryz.results15, go_sem, plc, pv, c0, c1, c2]) rfl ?_
  refine ⟨?_, ?_⟩
  ·unfold RetAll; rw [if_pos HB.out]
  ·repeat (first | (with_reducible exact Below.refl _ _) | (with_reducible assumption) | refine Below.setCell ?_ (by simp <;> omega) _ | refine Below.alloc ?_ (by simp <;> omega) _ | refine Below.drew ?_)
 ·have g1 : decide ((s.length : Int) > 16384) = false := by simp; omega
  have g1' : decide (16384 < (s.length : Int)) = false := by simp; omega
  have HB := Lib.hid hbig
  clear hbig
  go_wp2_with fail
  have X0 : (((w.alloc (.cells #[.int .i64 0, .int .i64 0, .int .i64 0] 29)).alloc (.cells #[.int .i64 0, .int .i64 1, .int .i64 0, .string ⟨s.toArray⟩] 91))).heap[w.heap.size]? = some (.cells #[.int .i64 0, .int .i64 0, .int .i64 0] 29 (0, 0)) := box_next (heap_alloc_new w (.cells #[.int .i64 0, .int .i64 0, .int .i64 0] 29)) ((Below.refl _ _).alloc (Nat.le_refl _) _)
  have L0 : Lx (((w.alloc (.cells #[.int .i64 0, .int .i64 0, .int .i64 0] 29)).alloc (.cells #[.int .i64 0, .int .i64 1, .int .i64 0, .string ⟨s.toArray⟩] 91))) (w.heap.size + 1) s 0 := ⟨by
   have := heap_alloc_new (w.alloc (.cells #[.int .i64 0, .int .i64 0, .int .i64 0] 29)) (.cells #[.int .i64 0, .int .i64 1, .int .i64 0, .string ⟨s.toArray⟩] 91)
   simpa [lineOf, startOf] using this, by omega, hs⟩
  have B0 : Below w.heap.size w (((w.alloc (.cells #[.int .i64 0, .int .i64 0, .int .i64 0] 29)).alloc (.cells #[.int .i64 0, .int .i64 1, .int .i64 0, .string ⟨s.toArray⟩] 91))) := ((Below.refl _ _).alloc (Nat.le_refl _) _).alloc (by simp) _
  go_loopw [2, 3] (fun row _ wr => ∃ (i f n c : Nat) (pre : List Tk) (A : Option Addr) (xs : List Value), row = .slice A n c ∧ Hid (lexS s (s.length + 1) 0 = (pre ++ (lexS s f i).1, (lexS s f i).2)) ∧ s.length + 1 ≤ f + i ∧ pre.length ≤ i ∧ n = pre.length ∧ Lx wr (w.heap.size + 1) s i ∧ wr.heap[w.heap.size]? = some (.cells #[.int .i64 0, .int .i64 0, .int .i64 0] 29 (0, 0)) ∧ wr.ownsRow (w.heap.size + 2) 93 8 (.slice A n c) n xs ∧ Hid (Reps (TkC s) pre xs) ∧ Below w.heap.size w wr) (fun _ _ wr => s.length - offW wr (w.heap.size + 1))
  case atStart => exact ⟨0, s.length + 1, 0, 0, [], none, [], rfl, Lib.hid (by simp), by omega, by simp, rfl, L0, X0, World.ownsRow_nil _ _ _ _, Lib.hid (by simp [Reps]), B0⟩
  case round =>
   obtain ⟨i, f, n, c, pre, A, xs, rfl, hp, hf, hpi, hnp, hL, hX, hO, hR, hB⟩ := hrel
   clear X0 L0 B0
   have HN := Lib.hid hnp
   clear hnp
   have hii := hL.i
   obtain ⟨f, rfl⟩ : ∃ f', f = f' + 1 := ⟨f - 1, by omega⟩
   have hof := Lib.hid hL.off
   go_wp2_with fail
   refine (gap_any (w.heap.size + 1) s i _ hL).mono ?_; rintro e w1 ⟨rfl, l1, g1⟩
   have hRlt := hL.lt
   have X1 := (g1.block w.heap.size (by omega) (by simp)).trans hX
   have O1 := own_keepL hO g1 (by omega)
   have B1 := below_gb hB g1 (by omega)
   clear hL hX hO hB g1
   obtain ⟨hs1, hs2, hs3⟩ := skip_at hii
   obtain ⟨j, hj⟩ : ∃ j, s.length - (skip (s.drop i)).length = j := ⟨_, rfl⟩
   rw [hj] at l1 hs2 hs3
   obtain ⟨⟨y0, y1⟩, y2, y3⟩ := cells4 l1.box
   by_cases hend : j = s.length
   ·have e1 : ((j : Int) == (s.length : Int)) = true := by simp; omega
    have hle := lex_end (s := s) (i := i) (f := f) (by rw [hj]; exact hend)
    have HP := Lib.hid (hp.out.trans (by rw [hle, List.append_nil]))
    have c0 : w1.cell? ⟨w.heap.size, 0, none⟩ = some (.int .i64 0) := by rw [Lib.cell_of_heap X1]; rfl
    have c1 : w1.cell? ⟨w.heap.size, 1, none⟩ = some (.int .i64 0) := by rw [Lib.cell_of_heap X1]; rfl
    have c2 : w1.cell? ⟨w.heap.size, 2, none⟩ = some (.int .i64 0) := by rw [Lib.cell_of_heap X1]; rfl
    have f0 := Lib.frozen_of_heap X1 0
    have f1 := Lib.frozen_of_heap X1 1
    have f2 := Lib.frozen_of_heap X1 2
    clear hs1 hj hle hf hpi hend
    go_wp2_with fail
    refine bodyPost_ret (v := .tuple #[.slice A n c, .int .i64 0, pv 0 0 0]) (by simp [results, Tryz.results15, go_sem, pv, c0, c1, c2]) rfl ?_
    refine ⟨?_, ?_⟩
    ·unfold RetAll
     rw [if_neg HB.out, if_neg (by rw [HP.out]; simp)]
     refine ⟨A, n, c, xs, rfl, ?_, by rw [HP.out]; exact hR.out⟩
     exact own_setL (own_setL (own_setL O1 _ (by omega)) _ (by omega)) _ (by omega)
    ·repeat (first | (with_reducible exact Below.refl _ _) | (with_reducible assumption) | refine Below.setCell ?_ (by simp <;> omega) _ | refine Below.alloc ?_ (by simp <;> omega) _ | refine Below.drew ?_)
   ·have e1 : ((j : Int) == (s.length : Int)) = false := by simp; omega
    have hlt : j < s.length := by omega
    clear hend
    go_wp2_with fail
    refine (token_any (w.heap.size + 1) s j _ l1 hlt).mono ?_; rintro e w2 ⟨rfl, l2, g2⟩
    have X2 := (g2.block w.heap.size (Nat.lt_of_lt_of_le (by omega : w.heap.size < w.heap.size + 1) (Nat.le_of_lt l1.lt)) (by simp)).trans X1
    have O2 := own_keepL O1 g2 (by omega)
    have B2 := below_gb B1 g2 (by omega)
    clear X1 O1 B1 g2 y0 y1 y2 y3 l1
    unfold RetT tkCells
    by_cases he : (tokL (s.drop j)).e = 0
    ·have hle := lex_ok (f := f) hii hj hlt he
     have htp := tokL_pos (s.drop j) he
     rw [List.length_drop] at htp
     have HP := Lib.hid (hp.out.trans (by rw [hle]))
     clear hle hp hs1 hj
     generalize tokL (s.drop j) = R at *
     obtain ⟨i', hi'⟩ : ∃ i' : Nat, j + R.n = i' := ⟨_, rfl⟩
     rw [hi'] at HP l2
     simp only [if_pos he]
     rw [he]
     have hsn : Hid (Reps (TkC s) (pre ++ [⟨R.k, (s.drop j).take R.n, R.v, j⟩]) (xs ++ tkCells R.k ((s.drop j).take R.n) R.v s j)) := Lib.hid (hR.out.append (.one rfl))
     have hn20 : n ≤ 20000 := by have := HN.out; omega
     have h7 : i < i' := by omega
     have hbs := B2.size
     go_wp2_with (at_builtin; refine wpList_app rfl (.tmp 42) (.tmp 44) tokE rfl (w.heap.size + 2) xs rfl ((O2.alloc _).alloc _) rfl (tkCells R.k ((s.drop j).take R.n) R.v s j) (Rd.made _ (tkCells R.k ((s.drop j).take R.n) R.v s j) rfl (by simp)) (by simp [tkCells, Value.oneCell']) (by unfold maxLen; omega) (by omega) (by simp; omega) ?_; intro A3 c3 w3 o3 g3 _)
     have hown := fun q hq => (O2.lt q hq).1
     have D2 := (B2.alloc B2.size (.cells (tkCells R.k ((s.drop j).take R.n) R.v s j).toArray 93)).alloc (by have := B2.size; simp; omega) (.cells (tkCells R.k ((s.drop j).take R.n) R.v s j).toArray 93)
     have E2 := ((Below.refl w2.heap.size w2).alloc (Nat.le_refl _) (.cells (tkCells R.k ((s.drop j).take R.n) R.v s j).toArray 93)).alloc (by simp) (.cells (tkCells R.k ((s.drop j).take R.n) R.v s j).toArray 93)
     have L3 := l2.next E2
     have X3 := box_next X2 E2
     have B3 : Below w.heap.size w w3 := ⟨g3.os.trans D2.os, g3.tape.trans D2.tape, g3.output.trans D2.output, Nat.le_trans D2.size g3.size, fun q hq => (g3.block q (Nat.lt_of_lt_of_le hq D2.size) (fun e => by have := hown q e.symm; omega)).trans (D2.block q hq)⟩
     have X4 := (g3.block w.heap.size (Array.getElem?_eq_some_iff.1 X3).1 (fun e => by have := hown _ e.symm; omega)).trans X3
     have L4 : Lx w3 (w.heap.size + 1) s i' := ⟨(g3.block (w.heap.size + 1) L3.lt (fun e => by have := hown _ e.symm; omega)).trans L3.box, L3.i, L3.n⟩
     go_roundw
     case rel => exact ⟨i', f, n + 1, c3, pre ++ [⟨R.k, (s.drop j).take R.n, R.v, j⟩], A3, _, rfl, Lib.hid (by rw [HP.out, List.append_assoc]; rfl), by omega, by have := HN.out; simp; omega, by rw [HN.out]; simp, L4, X4, o3, hsn, B3⟩
     case measure => rw [L4.off, hof.out]; omega
    ·have hle := lex_err (f := f) hii hj hlt he
     have HP := Lib.hid (hp.out.trans (by rw [hle]))
     clear hle hp hs1 hj
     generalize tokL (s.drop j) = R at *
     have g3 : (R.e != 0) = true := by simpa using he
     have g4 : (R.e == 0) = false := by simpa using he
     obtain ⟨m, hm⟩ : ∃ m : Nat, j + R.off = m := ⟨_, rfl⟩
     rw [hm] at HP
     simp only [if_neg he]
     rw [hm]
     clear hm
     have HE := Lib.hid he
     clear he
     go_wp2_with fail
     refine (at_any s (m : Int) _ hs).mono ?_; rintro e w1 ⟨rfl, b4⟩
     have X1 : w1.heap[w.heap.size]? = _ := box_next (box_next X2 (by first | exact (Below.refl _ _).alloc (Nat.le_refl _) _)) b4
     have c0 : w1.cell? ⟨w.heap.size, 0, none⟩ = some (.int .i64 0) := by rw [Lib.cell_of_heap X1]; rfl
     have c1 : w1.cell? ⟨w.heap.size, 1, none⟩ = some (.int .i64 0) := by rw [Lib.cell_of_heap X1]; rfl
     have c2 : w1.cell? ⟨w.heap.size, 2, none⟩ = some (.int .i64 0) := by rw [Lib.cell_of_heap X1]; rfl
     have f0 := Lib.frozen_of_heap X1 0
     have f1 := Lib.frozen_of_heap X1 1
     have f2 := Lib.frozen_of_heap X1 2
     have B4 : Below w.heap.size w w1 := bthen (by first | exact B2.alloc B2.size _) b4
     clear X2 B2 O2
     obtain ⟨q, hq⟩ : ∃ q, clampI s (m : Int) = q := ⟨_, rfl⟩
     rw [hq]
     have HQ := Lib.hid hq
     clear hq
     unfold plc pv
     go_wp2_with fail
     refine bodyPost_ret (v := .tuple #[.slice none 0 0, .int .i64 R.e, plc s q]) (by simp [results, Tryz.results15, go_sem, plc, pv, c0, c1, c2]) rfl ?_
     refine ⟨?_, ?_⟩
     ·unfold RetAll
      rw [if_neg HB.out, if_pos (by rw [HP.out]; exact HE.out), HP.out]
      rw [HQ.out]
     ·repeat (first | (with_reducible exact Below.refl _ _) | (with_reducible assumption) | refine Below.setCell ?_ (by simp <;> omega) _ | refine Below.alloc ?_ (by simp <;> omega) _ | refine Below.drew ?_)
end Go.Proofs.YtnbmpfdffoidaaaGreat.X
namespace Go.Proofs.YtnbmpfdffoidaaaGreat.X
open Go.RowKit O V S
theorem tokL_off (v : List UInt8) : (tokL v).off ≤ v.length := by
 match v with
 | [] => simp [tokL]
 | c :: r =>
  rw [tokL_cons]
  split
  ·split <;> simp
  ·split
   ·split <;> simp
   ·split
    ·cases hq : quoS ((c :: r).drop 1) 1 ⟨0, [], none⟩ with
     | none => unfold quoL; rw [hq]; simp
     | some Q =>
      cases hb : Q.bad with
      | some k =>
       rw [quoL_bad hq hb]
       have : ∀ (n : Nat) (l : List UInt8), l.length ≤ n → ∀ (k : Nat) (q Q : Quo) (b : Nat), (∀ b', q.bad = some b' → b' ≤ k) → quoS l k q = some Q → Q.bad = some b → b ≤ k + l.length := by
        intro n
        induction n with
        | zero =>
         intro l hl k q Q b _ h _
         cases l with
         | nil => rw [quoS_nil] at h; cases h
         | cons _ _ => simp at hl
        | succ n ih =>
         intro l hl k q Q b hqb h hbb
         match l, hl with
         | [], _ => rw [quoS_nil] at h; cases h
         | x :: l, hl =>
          simp at hl
          rw [quoS_cons] at h
          split at h
          ·cases h; have := hqb b hbb; simp; omega
          ·split at h
           ·match l, hl with
            | [], _ => cases h
            | d :: r, hl =>
             have := ih r (by simp at hl; omega) (k + 2) _ _ b ?_ h hbb
             ·simp; omega
             ·intro b' hb'
              cases hqq : q.bad with
              | some b0 => simp [orE, hqq] at hb'; have := hqb b0 hqq; omega
              | none => simp [orE, hqq] at hb'; omega
           ·have := ih l hl (k + 1) _ _ b ?_ h hbb
            ·simp; omega
            ·intro b' hb'
             cases hqq : q.bad with
             | some b0 => simp [orE, hqq] at hb'; have := hqb b0 hqq; omega
             | none => simp [orE, hqq] at hb'; omega
       have := this _ _ (Nat.le_refl _) 1 ⟨0, [], none⟩ Q k (by simp) hq hb
       simp at this ⊢
       omega
      | none =>
       rw [quoL_ok hq hb]
       split <;> simp
    ·split <;> simp
inductive LexU : List UInt8 → List (Int × List UInt8 × Val) → Int → Nat → Prop
 | fin {u : List UInt8} (h : skip u = []) : LexU u [] 0 0
 | err {u v : List UInt8} (h : skip u = v) (hv : v ≠ []) (he : (tokL v).e ≠ 0) : LexU u [] (tokL v).e (v.length - (tokL v).off)
 | tok {u v : List UInt8} {l : List (Int × List UInt8 × Val)} {e : Int} {o : Nat} (h : skip u = v) (hv : v ≠ []) (he : (tokL v).e = 0) (hr : LexU (v.drop (tokL v).n) l e o) : LexU u (((tokL v).k, v.take (tokL v).n, (tokL v).v) :: l) e o
theorem LexU.congr {u u' : List UInt8} {l : List (Int × List UInt8 × Val)} {e : Int} {o : Nat} (h : LexU u l e o) (hs : skip u' = skip u) : LexU u' l e o := by
 cases h with
 | fin h => exact .fin (hs.trans h)
 | err h hv he => exact .err (hs.trans h) hv he
 | tok h hv he hr => exact .tok (hs.trans h) hv he hr
theorem LexU.det {u : List UInt8} {l : List (Int × List UInt8 × Val)} {e : Int} {o : Nat} (h : LexU u l e o) : ∀ {l' : List (Int × List UInt8 × Val)} {e' : Int} {o' : Nat}, LexU u l' e' o' → l = l' ∧ e = e' ∧ o = o' := by
 induction h with
 | fin h =>
  intro l' e' o' k
  cases k with
  | fin _ => exact ⟨rfl, rfl, rfl⟩
  | err h' hv _ => exact absurd (h'.symm.trans h) hv
  | tok h' hv _ _ => exact absurd (h'.symm.trans h) hv
 | err h hv he =>
  intro l' e' o' k
  cases k with
  | fin h' => exact absurd (h.symm.trans h') hv
  | err h' _ _ => have := h.symm.trans h'; subst this; exact ⟨rfl, rfl, rfl⟩
  | tok h' _ he' _ => have := h.symm.trans h'; subst this; exact absurd he' he
 | tok h hv he _ ih =>
  intro l' e' o' k
  cases k with
  | fin h' => exact absurd (h.symm.trans h') hv
  | err h' _ he' => have := h.symm.trans h'; subst this; exact absurd he he'
  | tok h' _ _ hr' =>
   have := h.symm.trans h'; subst this
   obtain ⟨e1, e2, e3⟩ := ih hr'
   exact ⟨by rw [e1], e2, e3⟩
theorem lexU_of (s : List UInt8) : ∀ f i, i ≤ s.length → s.length + 1 ≤ f + i → ∃ o, LexU (s.drop i) ((lexS s f i).1.map core) (lexS s f i).2.1 o ∧ ((lexS s f i).2.1 ≠ 0 → (lexS s f i).2.2 + o = s.length)
 | 0, i, hi, hf => by omega
 | f + 1, i, hi, hf => by
  obtain ⟨hs1, hs2, hs3⟩ := skip_at hi
  obtain ⟨j, hj⟩ : ∃ j, s.length - (skip (s.drop i)).length = j := ⟨_, rfl⟩
  rw [hj] at hs1 hs2 hs3
  by_cases hend : j = s.length
  ·have := lex_end (f := f) (hj.trans hend)
   rw [this]
   refine ⟨0, .fin ?_, fun h => absurd rfl h⟩
   rw [hs1, hend, List.drop_length]
  ·have hlt : j < s.length := by omega
   have hv : s.drop j ≠ [] := by
    intro e; have := congrArg List.length e; simp at this; omega
   by_cases he : (tokL (s.drop j)).e = 0
   ·rw [lex_ok (f := f) hi hj hlt he]
    have hp := tokL_pos _ he
    rw [List.length_drop] at hp
    obtain ⟨o, h1, h2⟩ := lexU_of s f (j + (tokL (s.drop j)).n) (by omega) (by omega)
    rw [← List.drop_drop] at h1
    exact ⟨o, .tok hs1 hv he h1, h2⟩
   ·rw [lex_err (f := f) hi hj hlt he]
    have := tokL_off (s.drop j)
    rw [List.length_drop] at this
    exact ⟨_, .err hs1 hv he, fun _ => by simp only [List.length_drop]; omega⟩
theorem LexU.lex {s : List UInt8} {l : List (Int × List UInt8 × Val)} {e : Int} {o : Nat} (h : LexU s l e o) : (lexS s (s.length + 1) 0).1.map core = l ∧ (lexS s (s.length + 1) 0).2.1 = e ∧ (e ≠ 0 → (lexS s (s.length + 1) 0).2.2 + o = s.length) := by
 obtain ⟨o', h1, h2⟩ := lexU_of s (s.length + 1) 0 (by omega) (by omega)
 obtain ⟨e1, e2, e3⟩ := LexU.det h1 h
 exact ⟨e1, e2, fun he => by rw [← e3]; exact h2 (by rw [e2]; exact he)⟩
theorem LexU.of_lex (s : List UInt8) : ∃ o, LexU s ((lexS s (s.length + 1) 0).1.map core) (lexS s (s.length + 1) 0).2.1 o ∧ ((lexS s (s.length + 1) 0).2.1 ≠ 0 → (lexS s (s.length + 1) 0).2.2 + o = s.length) :=
 lexU_of s (s.length + 1) 0 (by omega) (by omega)
theorem while_app (t : List UInt8) : ∀ r : List UInt8, (r ++ 10 :: t).dropWhile noteC = r.dropWhile noteC ++ 10 :: t
 | [] => by simp [noteC]
 | c :: r => by
  rw [List.cons_append, List.dropWhile_cons, List.dropWhile_cons]
  split
  ·exact while_app t r
  ·rfl
theorem skip_app (t : List UInt8) : ∀ (n : Nat) (u : List UInt8), u.length ≤ n → skip (u ++ 10 :: t) = if skip u = [] then skip t else skip u ++ 10 :: t
 | _, [], _ => by rw [skip_nil, if_pos rfl, List.nil_append, skip_blank t (by decide)]
 | 0, c :: r, h => by simp at h
 | n + 1, c :: r, h => by
  simp at h
  by_cases h1 : blankC c = true
  ·rw [List.cons_append, skip_blank _ h1, skip_blank _ h1, skip_app t n r h]
  ·by_cases h2 : c.toNat = 35
   ·rw [List.cons_append, skip_note _ h2, skip_note _ h2, while_app, skip_app t n _ (by have := while_len noteC r; omega)]
   ·rw [List.cons_append, skip_stop _ (by simpa using h1) h2, skip_stop _ (by simpa using h1) h2, if_neg (by simp)]; rfl
theorem runL_app {p : UInt8 → Bool} {d : UInt8} (hd : p d = false) (t : List UInt8) : ∀ r : List UInt8, runLen p (r ++ d :: t) = runLen p r
 | [] => by simp [runLen, hd]
 | c :: r => by
  rw [List.cons_append, runLen, runLen, runL_app hd t r]
theorem blank_cases {d : UInt8} (h : blankC d = true) : d.toNat = 32 ∨ d.toNat = 9 ∨ d.toNat = 10 ∨ d.toNat = 13 := by
 simpa [blankC] using h
theorem blank_word {d : UInt8} (h : blankC d = true) : wordC d = false ∧ digitC d = false := by
 have := blank_cases h
 constructor
 ·simp [wordC, smallC, digitC]; omega
 ·simp [digitC]; omega
theorem quo_app (w : List UInt8) : ∀ (n : Nat) (r : List UInt8), r.length ≤ n → ∀ (k : Nat) (q Q : Quo), quoS r k q = some Q → quoS (r ++ w) k q = some Q
 | _, [], _, k, q, Q, h => by rw [quoS_nil] at h; cases h
 | 0, c :: r, h, _, _, _, _ => by simp at h
 | n + 1, c :: r, h, k, q, Q, hq => by
  simp at h
  rw [quoS_cons] at hq
  rw [List.cons_append, quoS_cons]
  split at hq
  ·rename_i h1; rw [if_pos h1]; exact hq
  ·rename_i h1
   rw [if_neg h1]
   split at hq
   ·rename_i h2
    rw [if_pos h2]
    match r, h with
    | [], _ => cases hq
    | d :: r, h => exact quo_app w n r (by simp at h; omega) _ _ _ hq
   ·rename_i h2
    rw [if_neg h2]
    exact quo_app w n r h _ _ _ hq
theorem two_blank {c d : UInt8} (h : blankC d = true) : two c.toNat d.toNat = false := by
 have := blank_cases h
 simp [two]; omega
theorem sign_app {d : UInt8} (h : blankC d = true) (t : List UInt8) : ∀ (c : UInt8) (r : List UInt8), signL ((c :: r) ++ d :: t) = signL (c :: r)
 | c, [] => by
  show signL (c :: d :: t) = signL [c]
  have e1 : signL (c :: d :: t) = if two c.toNat d.toNat then 2 else if one c.toNat then 1 else 0 := rfl
  have e2 : signL [c] = if one c.toNat then 1 else 0 := rfl
  rw [e1, e2, two_blank h]; rfl
 | c, x :: r => rfl
theorem tok_app {d : UInt8} (h : blankC d = true) (t v : List UInt8) (hv : v ≠ []) (he : (tokL v).e ≠ 12) : tokL (v ++ d :: t) = tokL v := by
 match v, hv with
 | c :: r, _ =>
  obtain ⟨hw, hd⟩ := blank_word h
  have e1 := runL_app hw t (c :: r)
  have e2 := runL_app hd t (c :: r)
  have e3 := sign_app h t c r
  have hcons : (c :: r) ++ d :: t = c :: (r ++ d :: t) := rfl
  rw [hcons] at e1 e2 e3 ⊢
  rw [tokL_cons] at he
  rw [tokL_cons, tokL_cons, e1, e2, e3]
  split
  ·rfl
  ·rename_i hs
   rw [if_neg hs] at he
   split
   ·have htk : (c :: (r ++ d :: t)).take (runLen digitC (c :: r)) = (c :: r).take (runLen digitC (c :: r)) := by
     rw [← hcons, List.take_append_of_le_length (runLen_le _ _)]
    rw [htk]
   ·rename_i hdg
    rw [if_neg hdg] at he
    split
    ·rename_i h34
     rw [if_pos h34] at he
     cases hq : quoS ((c :: r).drop 1) 1 ⟨0, [], none⟩ with
     | none => unfold quoL at he; rw [hq] at he; exact absurd rfl he
     | some Q =>
      have hq' := quo_app (d :: t) _ _ (Nat.le_refl _) _ _ _ hq
      unfold quoL
      have : (c :: (r ++ d :: t)).drop 1 = (c :: r).drop 1 ++ d :: t := rfl
      rw [this, hq', hq]
    ·rfl
theorem LexU.join {u : List UInt8} {l : List (Int × List UInt8 × Val)} {e : Int} {o : Nat} (h : LexU u l e o) (t : List UInt8) :
  (e = 0 → ∀ {l' : List (Int × List UInt8 × Val)} {e' : Int} {o' : Nat}, LexU t l' e' o' → LexU (u ++ 10 :: t) (l ++ l') e' o') ∧ (e ≠ 0 → e ≠ 12 → LexU (u ++ 10 :: t) l e (o + (t.length + 1))) := by
 induction h with
 | fin h =>
  refine ⟨fun _ l' e' o' k => ?_, fun he => absurd rfl he⟩
  refine k.congr ?_
  rw [skip_app t _ _ (Nat.le_refl _), if_pos h]
 | @err u v h hv he =>
  refine ⟨fun h0 => absurd h0 he, fun _ h12 => ?_⟩
  have hs : skip (u ++ 10 :: t) = v ++ 10 :: t := by rw [skip_app t _ _ (Nat.le_refl _), if_neg (by rw [h]; exact hv), h]
  have ht := tok_app (d := 10) (by decide) t v hv h12
  have := LexU.err hs (by simp) (by rw [ht]; exact he)
  rw [ht] at this
  have ho := tokL_off v
  have e1 : (v ++ 10 :: t).length - (tokL v).off = v.length - (tokL v).off + (t.length + 1) := by simp; omega
  rw [e1] at this
  exact this
 | @tok u v l e o h hv he hr ih =>
  have hs : skip (u ++ 10 :: t) = v ++ 10 :: t := by rw [skip_app t _ _ (Nat.le_refl _), if_neg (by rw [h]; exact hv), h]
  have ht := tok_app (d := 10) (by decide) t v hv (by rw [he]; decide)
  have hp := tokL_pos v he
  have hd : (v ++ 10 :: t).drop (tokL v).n = v.drop (tokL v).n ++ 10 :: t := List.drop_append_of_le_length hp.2
  have htk : (v ++ 10 :: t).take (tokL v).n = v.take (tokL v).n := List.take_append_of_le_length hp.2
  refine ⟨fun h0 l' e' o' k => ?_, fun h0 h12 => ?_⟩
  ·have := LexU.tok hs (by simp) (by rw [ht]; exact he) (by rw [ht, hd]; exact ih.1 h0 k)
   rw [ht, htk] at this
   exact this
  ·have := LexU.tok hs (by simp) (by rw [ht]; exact he) (by rw [ht, hd]; exact ih.2 h0 h12)
   rw [ht, htk] at this
   exact this
def joinB : List (List UInt8) → List UInt8
 | [] => []
 | [x] => x
 | x :: y :: r => x ++ 32 :: joinB (y :: r)
end Go.Proofs.YtnbmpfdffoidaaaGreat.X
namespace Go.Proofs.YtnbmpfdffoidaaaGreat.V
open Go O RowKit
theorem digN_mem (n : Nat) : ∀ c ∈ digN n, 48 ≤ c.toNat ∧ c.toNat ≤ 57 := by
 induction n using Nat.strongRecOn with
 | ind n ih =>
  by_cases h : n < 10
  ·rw [digN_lt h]
   intro c hc
   simp at hc
   subst hc
   simp
   omega
  ·rw [digN_ge (by omega)]
   intro c hc
   simp at hc
   rcases hc with hc | hc
   ·exact ih (n / 10) (by omega) c hc
   ·subst hc
    simp
    omega
theorem digN_cons (n : Nat) : ∃ c r, digN n = c :: r ∧ 48 ≤ c.toNat ∧ c.toNat ≤ 57 := by
 have hm := digN_mem n
 cases h : digN n with
 | nil =>
  exfalso
  by_cases g : n < 10
  ·rw [digN_lt g] at h; cases h
  ·rw [digN_ge (by omega)] at h; simp at h
 | cons c r => exact ⟨c, r, rfl, hm c (by rw [h]; simp)⟩
def numStep (n : Nat) (c : UInt8) : Nat := (10 * n + (c.toNat + 208) % 256) % 18446744073709551616
def numF (l : List UInt8) : Nat := l.foldl numStep 0
def toI (n : Nat) : Int := if n < 9223372036854775808 then n else (n : Int) - 18446744073709551616
def numS (s : List UInt8) : Int := match s with
 | [] => 0
 | c :: r => if c.toNat = 45 then toI ((18446744073709551616 - numF r) % 18446744073709551616) else toI (numF (c :: r))
def unqM : List UInt8 → List UInt8
 | [] => []
 | [c] => if c.toNat = 92 then [] else [c]
 | c :: d :: r => if c.toNat = 92 then d :: unqM r else c :: unqM (d :: r)
def unqR : List UInt8 → List UInt8
 | [] => []
 | [c] => [c]
 | c :: d :: r => if c.toNat = 92 then d :: unqR r else c :: unqR (d :: r)
def mid (s : List UInt8) : List UInt8 := (s.drop 1).take (s.length - 2)
def rstep (n : Int) (c : UInt8) : Int := if 48 ≤ c.toNat ∧ c.toNat ≤ 57 then wrap64 (wrap64 (wrap64 (n * 10) - c.toNat) + 48) else n
def rnum0 (s : List UInt8) : Int := s.foldl rstep 0
def rnum (s : List UInt8) : Int := if s.head?.map (·.toNat) = some 45 then rnum0 (s.take 21) else wrap64 (-rnum0 (s.take 21))
def goodV (v : Val) : Prop := right v = true ∧ -9223372036854775808 ≤ v.n ∧ v.n ≤ 9223372036854775807
end Go.Proofs.YtnbmpfdffoidaaaGreat.V
namespace Go.Proofs.YtnbmpfdffoidaaaGreat.V
open Go O RowKit
def cands (s : List UInt8) : List Val := [⟨1, numS s, []⟩, ⟨2, 1, []⟩, ⟨2, 0, []⟩, ⟨3, 0, unqM (mid s)⟩]
def fitP (s : List UInt8) (v : Val) : Bool := right v && printV v == s
def parseV (s : List UInt8) : Option Val := (cands s).find? (fitP s)
def parseR (s : List UInt8) : Option Val :=
 if s = [116, 114, 117, 101] then some ⟨2, 1, []⟩ else if s = [102, 97, 108, 115, 101] then some ⟨2, 0, []⟩
 else if 2 ≤ s.length ∧ s.head?.map (·.toNat) = some 34 then (if fitP s ⟨3, 0, unqR (mid s)⟩ then some ⟨3, 0, unqR (mid s)⟩ else none)
 else if decL (rnum s) = s then some ⟨1, rnum s, []⟩ else none
end Go.Proofs.YtnbmpfdffoidaaaGreat.V
namespace Go.Proofs.YtnbmpfdffoidaaaGreat.X
open O V S
theorem numV_snoc (l : List UInt8) (c : UInt8) : numV (l ++ [c]) = 10 * numV l + (c.toNat - 48) := by simp [numV]
theorem dig1 (n : Nat) (h : n < 10) : (UInt8.ofNat (48 + n)).toNat = 48 + n := by
 simp; omega
theorem numV_dig (n : Nat) : numV (digN n) = n := by
 induction n using Nat.strongRecOn with
 | _ n ih =>
  by_cases h : n < 10
  ·rw [digN_lt h]
   have := dig1 n h
   simp only [numV, List.foldl_cons, List.foldl_nil, this]
   omega
  ·rw [digN_ge (by omega), numV_snoc, ih (n / 10) (by omega), dig1 (n % 10) (by omega)]
   omega
theorem dig_pos (n : Nat) : 0 < (digN n).length := by
 obtain ⟨c, r, h, _⟩ := digN_cons n
 rw [h]; simp
theorem getD_app (a b : List UInt8) (h : 0 < a.length) : (a ++ b).getD 0 0 = a.getD 0 0 := by
 cases a with
 | nil => simp at h
 | cons _ _ => rfl
theorem dig_head (n : Nat) : ((digN n).getD 0 0).toNat ≠ 48 ∨ (digN n).length = 1 := by
 induction n using Nat.strongRecOn with
 | _ n ih =>
  by_cases h : n < 10
  ·right; rw [digN_lt h]; rfl
  ·left
   rw [digN_ge (by omega), getD_app _ _ (dig_pos _)]
   rcases ih (n / 10) (by omega) with h1 | h1
   ·exact h1
   ·intro h2
    obtain ⟨c, hc⟩ : ∃ c, digN (n / 10) = [c] := List.length_eq_one_iff.1 h1
    have h3 := numV_dig (n / 10)
    rw [hc] at h2 h3
    simp [numV] at h2 h3
    omega
end Go.Proofs.YtnbmpfdffoidaaaGreat.X
