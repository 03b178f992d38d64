/- Rows of structs: the cells of a list's elements, one element behind the other; and how arguments are opened to them. No program in sight. -/
import Derived.Test.YtpkoijlbbfffiaaLaws
import Derived.Test.YtpkoijlbbfffiaaOpen
import Derived.Deep.Slices
import Derived.Deep.Fields
import Derived.ChangeSame
namespace Go.Proofs.Ytpkoijlbbfffiaa
open Go.RowKit

/-- The cells xs are those of the elements of l, one behind the other: 'rep a vs' says that vs are a's. -/
def Reps {α : Type} (rep : α → List Value → Prop) : List α → List Value → Prop
  | [], xs => xs = []
  | a :: l, xs => ∃ vs ys, xs = vs ++ ys ∧ rep a vs ∧ Reps rep l ys

section
variable {α : Type} {rep rep' : α → List Value → Prop} {size : Nat}
theorem Reps.imp (hi : ∀ a vs, rep a vs → rep' a vs) : ∀ {l : List α} {xs : List Value}, Reps rep l xs → Reps rep' l xs
  | [], _, h => h
  | _ :: _, _, ⟨vs, ys, e, h, k⟩ => ⟨vs, ys, e, hi _ _ h, k.imp hi⟩
theorem Reps.append : ∀ {l : List α} {xs : List Value} {m : List α} {ys : List Value}, Reps rep l xs → Reps rep m ys → Reps rep (l ++ m) (xs ++ ys)
  | [], _, _, _, h, k => by simp only [Reps] at h; subst h; simpa using k
  | _ :: _, _, _, _, ⟨vs, zs, e, h, k'⟩, k => by subst e; exact ⟨vs, _, by rw [List.append_assoc], h, k'.append k⟩
theorem Reps.one {a : α} {vs : List Value} (h : rep a vs) : Reps rep [a] vs := ⟨vs, [], by simp, h, rfl⟩
theorem Reps.length (hs : ∀ a vs, rep a vs → vs.length = size) : ∀ {l : List α} {xs : List Value}, Reps rep l xs → xs.length = l.length * size
  | [], _, h => by simp only [Reps] at h; subst h; simp
  | _ :: l, _, ⟨vs, ys, e, h, k⟩ => by
    subst e
    rw [List.length_append, hs _ _ h, k.length hs, List.length_cons, Nat.succ_mul, Nat.add_comm]
theorem Reps.get (hs : ∀ a vs, rep a vs → vs.length = size) : ∀ {l : List α} {xs : List Value}, Reps rep l xs → ∀ i (hi : i < l.length), ∃ vs, rep l[i] vs ∧ ∀ j, j < size → xs[i * size + j]? = vs[j]?
  | [], _, _, i, hi => absurd hi (by simp)
  | _ :: _, _, ⟨vs, ys, e, h, k⟩, 0, _ => by
    subst e
    exact ⟨vs, h, fun j hj => by rw [Nat.zero_mul, Nat.zero_add, List.getElem?_append_left (by rw [hs _ _ h]; exact hj)]⟩
  | _ :: l, _, ⟨vs, ys, e, h, k⟩, i + 1, hi => by
    subst e
    obtain ⟨us, h1, h2⟩ := k.get hs i (by simpa using hi)
    refine ⟨us, h1, fun j hj => ?_⟩
    rw [List.getElem?_append_right (by rw [hs _ _ h, Nat.succ_mul]; omega), hs _ _ h, ← h2 j hj]
    congr 1
    rw [Nat.succ_mul]
    omega
theorem Reps.take (hs : ∀ a vs, rep a vs → vs.length = size) : ∀ {l : List α} {xs : List Value} (k : Nat), Reps rep l xs → Reps rep (l.take k) (xs.take (k * size))
  | [], _, k, h => by simp only [Reps] at h; subst h; simp [Reps]
  | _ :: _, _, 0, _ => by simp [Reps]
  | _ :: _, _, k + 1, ⟨vs, ys, e, h, q⟩ => by
    subst e
    refine ⟨vs, ys.take (k * size), ?_, h, q.take hs k⟩
    rw [List.take_append, hs _ _ h, List.take_of_length_le (by rw [hs _ _ h, Nat.succ_mul]; omega)]
    congr 2
    rw [Nat.succ_mul]
    omega
theorem Reps.drop (hs : ∀ a vs, rep a vs → vs.length = size) : ∀ {l : List α} {xs : List Value} (k : Nat), Reps rep l xs → Reps rep (l.drop k) (xs.drop (k * size))
  | [], _, k, h => by simp only [Reps] at h; subst h; simp [Reps]
  | _ :: _, _, 0, h => by simpa using h
  | _ :: _, _, k + 1, ⟨vs, ys, e, h, q⟩ => by
    subst e
    have := q.drop hs k
    have hz : vs.drop ((k + 1) * size) = [] := List.drop_of_length_le (by rw [hs _ _ h, Nat.succ_mul]; omega)
    rw [List.drop_succ_cons, List.drop_append, hs _ _ h, hz, List.nil_append]
    rwa [show (k + 1) * size - size = k * size by rw [Nat.succ_mul]; omega]
theorem Reps.all {p : Value → Prop} (hp : ∀ a vs, rep a vs → ∀ u ∈ vs, p u) : ∀ {l : List α} {xs : List Value}, Reps rep l xs → ∀ u ∈ xs, p u
  | [], _, h, u, hu => by simp only [Reps] at h; subst h; simp at hu
  | _ :: _, _, ⟨vs, ys, e, h, k⟩, u, hu => by
    subst e
    rcases List.mem_append.1 hu with h1 | h1
    · exact hp _ _ h u h1
    · exact k.all hp u h1
/-- Where the cells say all. -/
theorem Reps.of_fun (f : α → List Value) : ∀ (l : List α), Reps (fun a vs => vs = f a) l (l.flatMap f)
  | [] => by simp [Reps]
  | a :: l => ⟨f a, l.flatMap f, by simp, rfl, Reps.of_fun f l⟩
theorem Reps.to_fun (f : α → List Value) : ∀ {l : List α} {xs : List Value}, Reps (fun a vs => vs = f a) l xs → xs = l.flatMap f
  | [], _, h => by simp only [Reps] at h; simp [h]
  | _ :: _, _, ⟨vs, ys, e, h, k⟩ => by rw [e, h, k.to_fun f]; simp
end

/-- The cells of element i of a row that is read. -/
theorem Rd.elem {α : Type} {rep : α → List Value → Prop} {size : Nat} (hs : ∀ a vs, rep a vs → vs.length = size) {w : World} {B n : Nat} {A : Option Addr} {xs : List Value} {l : List α} (h : Rd w B size A n xs) (hr : Reps rep l xs)
    {i : Nat} (hi : i < l.length) (h0 : 0 < size) : ∃ b off vs, A = some ⟨b, off, none⟩ ∧ b < B ∧ rep l[i] vs ∧ ∀ j, j < size → w.cell? ⟨b, off + i * size + j, none⟩ = vs[j]? := by
  have hl := hr.length hs
  have hmul : (i + 1) * size ≤ l.length * size := Nat.mul_le_mul_right _ hi
  rw [Nat.succ_mul] at hmul
  obtain ⟨b, off, e, hb, hc⟩ := h.2 (by omega)
  obtain ⟨vs, h1, h2⟩ := hr.get hs i hi
  exact ⟨b, off, vs, e, hb, h1, fun j hj => by rw [Nat.add_assoc, hc _ (by omega), h2 j hj]⟩
theorem Rd.len_of {α : Type} {rep : α → List Value → Prop} {size : Nat} (hs : ∀ a vs, rep a vs → vs.length = size) {w : World} {B n : Nat} {A : Option Addr} {xs : List Value} {l : List α} (h : Rd w B size A n xs) (hr : Reps rep l xs) (h0 : 0 < size) : l.length = n := by
  have h1 := hr.length hs
  rw [h.1] at h1
  exact (Nat.eq_of_mul_eq_mul_right h0 h1).symm

section
open Go.ChangeShapes Go.WideShapes Go.ChangeAt Go.Deep
variable {H : Type} {enc : TypeId × Value → H} {P : Program} {W : World} {base : Nat} {spare : Nat → Bool} {held : Bool}

/-- Whatever reads as data of type t is some a that its cells are those of. -/
def Opens {α : Type} (enc : TypeId × Value → H) (P : Program) (W : World) (base : Nat) (spare : Nat → Bool) (held : Bool) (t : TypeId) (rep : α → List Value → Prop) : Prop :=
  ∀ fuel cs x, DataW.trod enc P W base spare held fuel t cs = some x → ∃ a, rep a cs

theorem opens_rows {α : Type} {rep : α → List Value → Prop} {size : Nat} (hs : ∀ a vs, rep a vs → vs.length = size) (h0 : 0 < size) {t e : TypeId} (ht : P.underlying t = some (.slice e)) (hC : P.cellsOf e = size) (hel : Opens enc P W base spare held e rep) :
    Opens enc P W base spare held t fun (l : List α) cs => ∃ A len cap xs, cs = [.slice A len cap] ∧ Rd W W.heap.size size A len xs ∧ Reps rep l xs ∧ len ≤ cap ∧ cap ≤ maxLen := by
  intro fuel cs x h
  rcases open_slice ht h with ⟨hcs, _⟩ | ⟨a, len, cap, m, n, D, Pl, hcs, hb, hl, hm, hmm, hx, hi⟩
  · exact ⟨[], none, 0, 0, [], hcs, Rd.nil_, rfl, Nat.le_refl _, Nat.zero_le _⟩
  · have hlm : len ≤ m := by rw [hmm]; split <;> omega
    rw [hC] at hi
    have each : ∀ k, k ≤ len → ∃ (l : List α) (xs : List Value), Reps rep l xs ∧ l.length = k ∧ ∀ j, j < k * size → W.cell? (a.add j) = xs[j]? := by
      intro k
      induction k with
      | zero => intro _; exact ⟨[], [], rfl, rfl, fun j hj => by simp at hj⟩
      | succ k ih =>
        intro hk
        obtain ⟨l, xs, h1, h2, h3⟩ := ih (by omega)
        obtain ⟨cs', hc, ht'⟩ := hi k (by omega)
        obtain ⟨y, hy⟩ := hel _ _ _ ht'
        obtain ⟨_, hcl, hat⟩ := World.cells?_some hc
        refine ⟨l ++ [y], xs ++ cs', h1.append (.one hy), by simp [h2], fun j hj => ?_⟩
        have hxl := h1.length hs
        rw [h2] at hxl
        rw [Nat.succ_mul] at hj
        by_cases hlt : j < k * size
        · rw [h3 j hlt, List.getElem?_append_left (by omega)]
        · rw [List.getElem?_append_right (by omega), hxl, ← hat (j - k * size) (by omega), Go.Deep.add_add]
          congr 2
          omega
    obtain ⟨l, xs, h1, h2, h3⟩ := each len (Nat.le_refl _)
    have hxl := h1.length hs
    rw [h2] at hxl
    refine ⟨l, some a, len, cap, xs, hcs, ⟨hxl, fun hp => ?_⟩, h1, hl, hm⟩
    have hc0 := h3 0 (by omega)
    rw [List.getElem?_eq_getElem hp] at hc0
    obtain ⟨b, off, spot⟩ := a
    have hspot : spot = none := by simpa [Addr.add] using World.cell?_spot hc0
    subst hspot
    refine ⟨b, off, rfl, by simpa [Addr.add] using World.block_lt_of_cell? W _ hc0, fun j hj => ?_⟩
    have hadd : (⟨b, off, none⟩ : Addr).add j = ⟨b, off + j, none⟩ := by
      by_cases h0 : j = 0 <;> simp [Addr.add, h0]
    rw [← hadd]
    exact h3 j (by omega)

theorem opens_int {t : TypeId} {k : IntKind} (ht : P.underlying t = some (.int k)) : Opens enc P W base spare held t fun (n : Int) cs => cs = [.int k n] ∧ (Lit.int k n).wf = true := by
  intro fuel cs x h
  obtain ⟨n, h1, _, h3⟩ := DataW.trod_int ht h
  exact ⟨n, h1, h3⟩
theorem opens_bool {t : TypeId} (ht : P.underlying t = some .bool) : Opens enc P W base spare held t fun (b : Bool) cs => cs = [.bool b] := by
  intro fuel cs x h
  obtain ⟨n, h1, _⟩ := DataW.trod_bool ht h
  exact ⟨n, h1⟩
theorem opens_string {t : TypeId} (ht : P.underlying t = some .string) : Opens enc P W base spare held t fun (s : List UInt8) cs => cs = [.string ⟨s.toArray⟩] ∧ s.length ≤ maxLen := by
  intro fuel cs x h
  obtain ⟨s, h1, _, h3⟩ := DataW.trod_string ht h
  refine ⟨s.data.toList, by rw [h1], ?_⟩
  rw [Array.length_toList]
  exact h3
theorem opens_bytes {t e : TypeId} (ht : P.underlying t = some (.slice e)) (he : P.underlying e = some (.int .u8)) (hc : P.cellsOf e = 1) :
    Opens enc P W base spare held t fun (l : List UInt8) cs => ∃ A len cap, cs = [.slice A len cap] ∧ IsB W A len cap l := by
  intro fuel cs x h
  obtain ⟨l, A, len, cap, xs, h1, h2, h3, h4, h5⟩ := opens_rows (rep := fun (n : Int) cs => cs = [.int .u8 n] ∧ (Lit.int .u8 n).wf = true) (size := 1) (by rintro _ _ ⟨rfl, _⟩; rfl) (by omega) ht hc (opens_int he) _ _ _ h
  refine ⟨l.map fun n => UInt8.ofNat n.toNat, A, len, cap, h1, ?_, h4, h5⟩
  have : xs = bv (l.map fun n => UInt8.ofNat n.toNat) := by
    clear h1 h2 h4 h5 h
    induction l generalizing xs with
    | nil => simp only [Reps] at h3; simp [h3, bv]
    | cons n l ih =>
      obtain ⟨vs, ys, rfl, ⟨rfl, hw⟩, k⟩ := h3
      rw [ih _ k]
      have hb := bounds_u8 hw
      simp [bv]
      omega
  rw [← this]
  exact h2
/-- A struct's fields, each of one cell. -/
theorem opens_fields {t : TypeId} {fs : Array Field} {fuel : Nat} {cs : List Value} {x : DataW H × List MemPlace} (ht : P.underlying t = some (.struct fs)) (hone : oneCellFields P fs = true) (h : DataW.trod enc P W base spare held fuel t cs = some x) :
    cs.length = P.cellsOf t ∧ ∃ n, ∀ (j : Nat) (f : Field) (v : Value), fs[j]? = some f → cs[j]? = some v → ∃ y, DataW.trod enc P W base spare held n f.type [v] = some y := by
  obtain ⟨xs, n, _, _, hl, hlen, hf⟩ := DataW.trod_struct ht h
  refine ⟨hl, n, fun j f v hj hv => ?_⟩
  obtain ⟨ho, hk⟩ := hone_of hone j f hj
  have h1 := hf j f hj
  rw [ho, hk] at h1
  have hjl : j < fs.size := (Array.getElem?_eq_some_iff.1 hj).1
  obtain ⟨hjc, hvv⟩ := List.getElem?_eq_some_iff.1 hv
  rw [List.drop_eq_getElem_cons hjc, hvv, List.getElem?_eq_getElem (by omega)] at h1
  exact ⟨_, h1⟩
/-- A row that came in. -/
theorem open_rows_arg {α : Type} {rep : α → List Value → Prop} {size : Nat} (hs : ∀ a vs, rep a vs → vs.length = size) (h0 : 0 < size) {t e : TypeId} (ht : P.underlying t = some (.slice e)) (hC : P.cellsOf e = size) (hel : Opens enc P W base spare held e rep)
    {r : Reach} {b0 : Nat} {v : Value} {d : DataW H} {p : List MemPlace} (hv : Value.okWide P W r b0 t v) (h : DataW.Trod enc P W base spare held t v d p) : ∃ (l : List α) (A : Option Addr) (len cap : Nat) (xs : List Value), v = .slice A len cap ∧ Rd W W.heap.size size A len xs ∧ Reps rep l xs ∧ len ≤ cap ∧ cap ≤ maxLen := by
  obtain ⟨A, n, c, rfl⟩ := okWide_slice ht hv
  obtain ⟨fuel, hf⟩ := h
  obtain ⟨l, A', len, cap, xs, e, h1, h2, h3, h4⟩ := opens_rows hs h0 ht hC hel _ _ _ hf
  simp [Value.cells] at e
  obtain ⟨rfl, rfl, rfl⟩ := e
  exact ⟨l, _, _, _, xs, rfl, h1, h2, h3, h4⟩
end
end Go.Proofs.Ytpkoijlbbfffiaa
