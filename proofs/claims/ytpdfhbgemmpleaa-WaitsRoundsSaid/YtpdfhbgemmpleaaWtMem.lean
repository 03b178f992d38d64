/- Waits in memory: rows of numbers, rows of who waits for whom, the two kinds of maps. -/
import Derived.Test.YtpdfhbgemmpleaaWtPlain
import Derived.Test.YtpdfhbgemmpleaaReps
import Derived.Test.YtpdfhbgemmpleaaLaws
import Derived.Test.YtpdfhbgemmpleaaShelfSort
import Derived.Maps.RangeWalk
import Derived.Maps.Ext
import Derived.Maps.OwnOps
import Derived.Sort.OwnSortedInts
import Derived.Outline
namespace Go.Proofs.Ytpdfhbgemmpleaa.T
open Go.RowKit

theorem box_next {w w' : World} {g : Nat} {o : Obj} (h : w.heap[g]? = some o) (b : Below w.heap.size w w') : w'.heap[g]? = some o := by
  have hg : g < w.heap.size := (Array.getElem?_eq_some_iff.1 h).1
  rw [b.block g hg]; exact h
theorem alloc_at {w : World} {o : Obj} {k : Nat} (h : k = w.heap.size) : (w.alloc o).heap[k]? = some o := by subst h; exact heap_alloc_new w o
theorem alloc_old' {w : World} {o x : Obj} {k : Nat} (h : w.heap[k]? = some x) : (w.alloc o).heap[k]? = some x := by
  rw [Lib.alloc_old w o k (Array.getElem?_eq_some_iff.1 h).1]; exact h
def wf (x : Int) : Prop := -9223372036854775808 ≤ x ∧ x ≤ 9223372036854775807
theorem wf.lit {x : Int} (h : wf x) : (Lit.int .i64 x).wf = true := by
  unfold wf at h; simp [Lit.wf, IntKind.min, IntKind.max, IntKind.signed, IntKind.bits]; omega
theorem wf.of {x : Int} (h : (Lit.int .i64 x).wf = true) : wf x := by
  simp [Lit.wf, IntKind.min, IntKind.max, IntKind.signed, IntKind.bits] at h; unfold wf; omega
/-- Numbers as cells. -/
def iv (l : List Int) : List Value := l.map (Value.int .i64)
@[simp] theorem iv_length (l : List Int) : (iv l).length = l.length := by simp [iv]
theorem iv_append (a b : List Int) : iv (a ++ b) = iv a ++ iv b := by simp [iv]
theorem iv_one (l : List Int) : ∀ u ∈ iv l, u.oneCell' = true := by intro u hu; simp [iv] at hu; obtain ⟨c, _, rfl⟩ := hu; rfl
theorem iv_get {l : List Int} {j : Nat} (h : j < l.length) : (iv l)[j]? = some (.int .i64 l[j]) := by simp [iv, h]
theorem iv_inj : ∀ {a b : List Int}, iv a = iv b → a = b
  | [], [], _ => rfl
  | [], _ :: _, h => by cases h
  | _ :: _, [], h => by cases h
  | x :: a, y :: b, h => by
    unfold iv at h
    simp only [List.map_cons, List.cons.injEq, Value.int.injEq, true_and] at h
    rw [h.1, iv_inj h.2]
/-- The slice (A, n, c) reads as the numbers l. -/
structure NRow (w : World) (A : Option Addr) (n c : Nat) (l : List Int) : Prop where
  rd : Rd w w.heap.size 1 A n (iv l)
  n : n ≤ c
theorem NRow.len {w : World} {A : Option Addr} {n c : Nat} {l : List Int} (h : NRow w A n c l) : l.length = n := by have := h.rd.1; simp at this; exact this
theorem NRow.next {w W : World} {A : Option Addr} {n c : Nat} {l : List Int} (h : NRow w A n c l) (b : Below w.heap.size w W) : NRow W A n c l := ⟨h.rd.next b, h.n⟩
theorem NRow.nil (w : World) (c : Nat) : NRow w none 0 c [] := ⟨Rd.nil_, Nat.zero_le _⟩
theorem own_capN {w : World} {base e size n c : Nat} {A : Option Addr} {xs : List Value} (h : w.ownsRow base e size (.slice A n c) n xs) : n ≤ c := by
  rcases h.2 with ⟨hv, h0⟩ | ⟨g, cap, cur, hv, _, _, hnc, _⟩
  · rw [h0]; exact Nat.zero_le _
  · injection hv with _ _ hc; rw [hc]; exact hnc
theorem NRow.own {w : World} {base e n c : Nat} {A : Option Addr} {l : List Int} (h : w.ownsRow base e 1 (.slice A n c) n (iv l)) : NRow w A n c l := ⟨Rd.of_own h, own_capN h⟩
theorem NRow.at {w : World} {A : Option Addr} {n c : Nat} {l : List Int} (h : NRow w A n c l) {j : Nat} (hj : j < l.length) : ∃ b off, A = some ⟨b, off, none⟩ ∧ b < w.heap.size ∧ ∀ W, Below w.heap.size w W → W.cell? ⟨b, off + j, none⟩ = some (.int .i64 l[j]) := by
  obtain ⟨b, off, rfl, hb, hc⟩ := h.rd.2 (by simp; omega)
  exact ⟨b, off, rfl, hb, fun W bW => ((bW.cell (p := ⟨b, off + j, none⟩) hb).trans (hc j (by simpa using hj))).trans (iv_get hj)⟩
theorem intE : Elem Try.prog 22 3 1 8 (.int .i64 0) := by
  obtain ⟨i, hi, h1, h2, h3⟩ := info_parts (show (Try.prog.info? 3).map (fun i => (i.zero, i.size, i.bytes)) = some (some (.int .i64 0), 1, 8) by kernel_rfl)
  exact ⟨Try.underlying22, i, hi, h1, h2, h3, rfl, by omega⟩
/-- One who waits, in two cells. -/
def WtC (w : World) (p : Int × List Int) (vs : List Value) : Prop := ∃ A n c, vs = [.int .i64 p.1, .slice A n c] ∧ NRow w A n c p.2
def NsC (w : World) (l : List Int) (vs : List Value) : Prop := ∃ A n c, vs = [.slice A n c] ∧ NRow w A n c l
theorem WtC.size (w : World) : ∀ (p : Int × List Int) (vs : List Value), WtC w p vs → vs.length = 2 := by rintro p vs ⟨A, n, c, rfl, _⟩; rfl
theorem WtC.one (w : World) : ∀ (p : Int × List Int) (vs : List Value), WtC w p vs → ∀ u ∈ vs, u.oneCell' = true := by
  rintro p vs ⟨A, n, c, rfl, _⟩ u hu
  simp at hu
  rcases hu with rfl | rfl <;> rfl
theorem WtC.next {w W : World} (b : Below w.heap.size w W) : ∀ (p : Int × List Int) (vs : List Value), WtC w p vs → WtC W p vs := by
  rintro p vs ⟨A, n, c, e, h⟩; exact ⟨A, n, c, e, h.next b⟩
theorem NsC.size (w : World) : ∀ (l : List Int) (vs : List Value), NsC w l vs → vs.length = 1 := by rintro p vs ⟨A, n, c, rfl, _⟩; rfl
theorem NsC.one (w : World) : ∀ (l : List Int) (vs : List Value), NsC w l vs → ∀ u ∈ vs, u.oneCell' = true := by
  rintro p vs ⟨A, n, c, rfl, _⟩ u hu
  simp at hu
  rcases hu with rfl; rfl
theorem NsC.next {w W : World} (b : Below w.heap.size w W) : ∀ (l : List Int) (vs : List Value), NsC w l vs → NsC W l vs := by
  rintro p vs ⟨A, n, c, e, h⟩; exact ⟨A, n, c, e, h.next b⟩
/-- The slice (A, n, c) reads as the waits L. -/
structure GRow (w : World) (A : Option Addr) (n c : Nat) (L : Gr) : Prop where
  rd : ∃ xs, Rd w w.heap.size 2 A n xs ∧ Reps (WtC w) L xs
  n : n ≤ c
theorem GRow.len {w : World} {A : Option Addr} {n c : Nat} {L : Gr} (h : GRow w A n c L) : L.length = n := by
  obtain ⟨xs, h1, h2⟩ := h.rd
  exact h1.len_of (WtC.size w) h2 (by omega)
theorem GRow.next {w W : World} {A : Option Addr} {n c : Nat} {L : Gr} (h : GRow w A n c L) (b : Below w.heap.size w W) : GRow W A n c L := by
  obtain ⟨xs, h1, h2⟩ := h.rd
  exact ⟨⟨xs, h1.next b, h2.imp (WtC.next b)⟩, h.n⟩
theorem GRow.at {w : World} {A : Option Addr} {n c : Nat} {L : Gr} (h : GRow w A n c L) {k : Nat} (hk : k < L.length) : ∃ b off A' n' c', A = some ⟨b, off, none⟩ ∧ b < w.heap.size ∧ NRow w A' n' c' L[k].2 ∧
    ∀ W, Below w.heap.size w W → W.cell? ⟨b, off + k * 2, none⟩ = some (.int .i64 L[k].1) ∧ W.cell? ⟨b, off + k * 2 + 1, none⟩ = some (.slice A' n' c') := by
  obtain ⟨xs, h1, h2⟩ := h.rd
  obtain ⟨b, off, vs, e, hb, ⟨A', n', c', rfl, hr⟩, hc⟩ := h1.elem (WtC.size w) h2 hk (by omega)
  refine ⟨b, off, A', n', c', e, hb, hr, fun W bW => ⟨?_, ?_⟩⟩
  · exact (bW.cell (p := ⟨b, off + k * 2 + 0, none⟩) hb).trans (hc 0 (by omega))
  · exact (bW.cell (p := ⟨b, off + k * 2 + 1, none⟩) hb).trans (hc 1 (by omega))
/-- The slice (A, n, c) reads as rows of numbers. -/
structure FRow (w : World) (A : Option Addr) (n c : Nat) (fs : List (List Int)) : Prop where
  rd : ∃ xs, Rd w w.heap.size 1 A n xs ∧ Reps (NsC w) fs xs
  n : n ≤ c
theorem FRow.len {w : World} {A : Option Addr} {n c : Nat} {L : List (List Int)} (h : FRow w A n c L) : L.length = n := by
  obtain ⟨xs, h1, h2⟩ := h.rd
  exact h1.len_of (NsC.size w) h2 (by omega)
theorem FRow.next {w W : World} {A : Option Addr} {n c : Nat} {L : List (List Int)} (h : FRow w A n c L) (b : Below w.heap.size w W) : FRow W A n c L := by
  obtain ⟨xs, h1, h2⟩ := h.rd
  exact ⟨⟨xs, h1.next b, h2.imp (NsC.next b)⟩, h.n⟩
theorem FRow.at {w : World} {A : Option Addr} {n c : Nat} {L : List (List Int)} (h : FRow w A n c L) {k : Nat} (hk : k < L.length) : ∃ b off A' n' c', A = some ⟨b, off, none⟩ ∧ b < w.heap.size ∧ NRow w A' n' c' L[k] ∧
    ∀ W, Below w.heap.size w W → W.cell? ⟨b, off + k, none⟩ = some (.slice A' n' c') := by
  obtain ⟨xs, h1, h2⟩ := h.rd
  obtain ⟨b, off, vs, e, hb, ⟨A', n', c', rfl, hr⟩, hc⟩ := h1.elem (NsC.size w) h2 hk (by omega)
  refine ⟨b, off, A', n', c', e, hb, hr, fun W bW => ?_⟩
  have := (bW.cell (p := ⟨b, off + k * 1 + 0, none⟩) hb).trans (hc 0 (by omega))
  simpa using this
/-- How an element that is a slice reads: as itself. -/
def eR (v : Value) : Option (DataW Value × List MemPlace) := match v with
  | .slice A n c => some (.held (.slice A n c), [])
  | _ => none
theorem eR_inv {v : Value} {z : DataW Value × List MemPlace} (h : eR v = some z) : ∃ A n c, v = .slice A n c ∧ z = (.held (.slice A n c), []) := by
  unfold eR at h
  split at h
  · cases h; exact ⟨_, _, _, rfl, rfl⟩
  · cases h
theorem keyI : Maps.Keyed Try.prog 3 := Maps.int_keyed Try.underlying3
theorem keyOf_i {x : Int} (h : wf x) : keyOf Try.prog 3 (.int .i64 x) = some (.int .i64 x) := Maps.keyOf_int_mk Try.underlying3 h.lit
theorem isKey (x : Int) : WideAt.IsKeyLit (.int .i64 x) := trivial
theorem lit_ne {x y : Int} (h : x ≠ y) : (Lit.int .i64 x) ≠ .int .i64 y := fun e => h (by injection e)
/-- Block b of w is the map of who waits for whom: the waits L. -/
def EMap (w : World) (b : Nat) (L : Gr) : Prop := ∃ D : DataW Value, w.ownsMap Try.prog 3 eR b L.length D ∧
  (∀ x, Maps.has D (.int .i64 x) = true ↔ ∃ p ∈ L, p.1 = x) ∧
  ∀ x, ∃ A n c, D.atKey (.int .i64 x) (.held (.slice none 0 0)) = .held (.slice A n c) ∧ NRow w A n c (forE L x)
theorem EMap.lt {w : World} {b : Nat} {L : Gr} (h : EMap w b L) : b < w.heap.size := by obtain ⟨D, h1, _⟩ := h; exact h1.lt
theorem EMap.next {w W : World} {b : Nat} {L : Gr} (h : EMap w b L) (k : Below w.heap.size w W) : EMap W b L := by
  obtain ⟨D, h1, h2, h3⟩ := h
  refine ⟨D, h1.kept (row := none) (grown_of_below k none) (by simp), h2, fun x => ?_⟩
  obtain ⟨A, n, c, e, hr⟩ := h3 x
  exact ⟨A, n, c, e, hr.next k⟩
theorem EMap.made (w : World) : EMap (w.alloc (.map #[] 0)) w.heap.size [] := by
  refine ⟨.map [], World.ownsMap_made w _ _ _, fun x => ⟨fun h => by simp [Maps.has_eq] at h, fun ⟨_, h, _⟩ => by simp at h⟩, fun x => ⟨none, 0, 0, ?_, NRow.nil _ _⟩⟩
  simp [DataW.atKey]
theorem EMap.look {w : World} {b : Nat} {L : Gr} (h : EMap w b L) {x : Int} (hx : wf x) : ∃ A n c, NRow w A n c (forE L x) ∧ (Instr.lookup 45 (.map (some b)) (.int .i64 x) false).run Try.prog w = .ok (.slice A n c) w := by
  obtain ⟨D, h1, h2, h3⟩ := h
  obtain ⟨A, n, c, e, hr⟩ := h3 x
  obtain ⟨v, ps, hrun, hv⟩ := h1.lookup keyI Try.underlying45 (z := .slice none 0 0) (Try.zeroValue22 w) (zd := .held (.slice none 0 0)) (zp := []) rfl (keyOf_i hx)
  rw [e] at hv
  obtain ⟨A', n', c', rfl, e2⟩ := eR_inv hv
  injection e2 with e2 _
  injection e2 with e2
  rw [← e2] at hrun
  exact ⟨A, n, c, hr, hrun⟩
theorem EMap.lookOk {w : World} {b : Nat} {L : Gr} (h : EMap w b L) {x : Int} (hx : wf x) : ∃ v ok, (ok = true ↔ ∃ p ∈ L, p.1 = x) ∧ (Instr.lookup 45 (.map (some b)) (.int .i64 x) true).run Try.prog w = .ok (.tuple #[v, .bool ok]) w := by
  obtain ⟨D, h1, h2, h3⟩ := h
  obtain ⟨v, ps, hrun, hv⟩ := h1.look_ok keyI Try.underlying45 (z := .slice none 0 0) (Try.zeroValue22 w) (zd := .held (.slice none 0 0)) (zp := []) rfl (keyOf_i hx)
  exact ⟨v, _, h2 x, hrun⟩
/-- A row stays while a map turns. -/
theorem NRow.turned {w w' : World} {A : Option Addr} {n c b : Nat} {l : List Int} {es : Array MapEntry} {cl : Nat} (h : NRow w A n c l) (m : w.heap[b]? = some (.map es cl)) (g : w.grownBy w' (some b)) : NRow w' A n c l := by
  refine ⟨⟨h.rd.1, fun hn => ?_⟩, h.n⟩
  obtain ⟨q, off, e, hq, hc⟩ := h.rd.2 hn
  have hne : q ≠ b := by
    intro e2
    subst e2
    have := hc 0 hn
    rw [World.cell?_of_block (w := w) rfl] at this
    have h0 : w.cell? ⟨q, off + 0, none⟩ = none := by simp [World.cell?, m]
    rw [h0, List.getElem?_eq_getElem hn] at this
    cases this
  exact ⟨q, off, e, Nat.lt_of_lt_of_le hq g.size, fun j hj => (World.cell?_of_block (g.block q hq (fun e3 => hne (by injection e3)))).trans (hc j hj)⟩
theorem EMap.put {w : World} {b : Nat} {L : Gr} (h : EMap w b L) {x : Int} (hx : wf x) (hn : ∀ p ∈ L, p.1 ≠ x) (hl : L.length < 1000) {A : Option Addr} {n c : Nat} {l : List Int} (hr : NRow w A n c l) :
    ∃ w', (Instr.mapUpdate 45 (.map (some b)) (.int .i64 x) (.slice A n c)).run Try.prog w = .ok () w' ∧ EMap w' b (L ++ [(x, l)]) ∧ w.grownBy w' (some b) := by
  obtain ⟨D, h1, h2, h3⟩ := h
  have hm := h1.isMap
  obtain ⟨w', hrun, ho, hg⟩ := h1.update keyI Try.underlying45 (by unfold maxLen; omega) (keyOf_i hx) (val := .slice A n c) (d := .held (.slice A n c)) (ps := []) rfl
  obtain ⟨es, cl, hb, _⟩ := h1
  refine ⟨w', hrun, ⟨_, by simpa using ho, fun y => ?_, fun y => ?_⟩, hg⟩
  · by_cases e : y = x
    · subst e
      rw [Maps.has_put_same hm (isKey y)]
      simp
    · rw [Maps.has_put_other (lit_ne e), h2 y]
      constructor
      · rintro ⟨p, hp, e2⟩; exact ⟨p, by simp [hp], e2⟩
      · rintro ⟨p, hp, e2⟩
        rcases List.mem_append.1 hp with hp | hp
        · exact ⟨p, hp, e2⟩
        · rw [List.mem_singleton] at hp; subst hp; exact absurd e2.symm e
  · by_cases e : y = x
    · subst e
      refine ⟨A, n, c, Maps.atKey_put_same hm (isKey y) _ _, ?_⟩
      rw [forE_snoc hn, if_pos rfl]
      exact hr.turned hb hg
    · obtain ⟨A', n', c', e2, hr'⟩ := h3 y
      refine ⟨A', n', c', (Maps.atKey_put_other (lit_ne e) _ _).trans e2, ?_⟩
      rw [forE_snoc hn, if_neg (fun e3 => e e3.symm)]
      exact hr'.turned hb hg
theorem EMap.twice {w : World} {b : Nat} {L : Gr} (h : EMap w b L) {p : Int × List Int} (hp : ∃ q ∈ L, q.1 = p.1) : EMap w b (L ++ [p]) := by
  obtain ⟨D, h1, h2, h3⟩ := h
  refine ⟨D, h1.mono (by simp), fun x => ?_, fun x => ?_⟩
  · rw [h2 x]
    constructor
    · rintro ⟨q, hq, e⟩; exact ⟨q, by simp [hq], e⟩
    · rintro ⟨q, hq, e⟩
      rcases List.mem_append.1 hq with hq | hq
      · exact ⟨q, hq, e⟩
      · rw [List.mem_singleton] at hq
        subst hq
        obtain ⟨r, hr, e2⟩ := hp
        exact ⟨r, hr, e2.trans e⟩
  · rw [forE_twice hp]; exact h3 x
theorem EMap.turned {w w' : World} {b q : Nat} {L : Gr} {es : Array MapEntry} {cl : Nat} (h : EMap w b L) (m : w.heap[q]? = some (.map es cl)) (g : w.grownBy w' (some q)) (hne : b ≠ q) : EMap w' b L := by
  obtain ⟨D, h1, h2, h3⟩ := h
  refine ⟨D, h1.kept g (fun e => hne (by injection e)), h2, fun x => ?_⟩
  obtain ⟨A, n, c, e, hr⟩ := h3 x
  exact ⟨A, n, c, e, hr.turned m g⟩
/-- What a set's map reads as. -/
structure MD (D : DataW Unit) (S : List Int) : Prop where
  nd : S.Nodup
  size : Maps.size D = S.length
  has : ∀ x, Maps.has D (.int .i64 x) = true ↔ x ∈ S
  val : ∀ x, D.atKey (.int .i64 x) (.lit (.int .i64 0)) = .lit (.int .i64 (if x ∈ S then 1 else 0))
/-- Block b of w is the map of those who were met: S. -/
def MMap (w : World) (b : Nat) (S : List Int) : Prop := ∃ D : DataW Unit, w.ownsMap Try.prog 3 (plainElem Try.prog 3) b S.length D ∧ MD D S
theorem MMap.lt {w : World} {b : Nat} {S : List Int} (h : MMap w b S) : b < w.heap.size := by obtain ⟨D, h1, _⟩ := h; exact h1.lt
theorem MMap.grown {w W : World} {b : Nat} {S : List Int} {row : Option Nat} (h : MMap w b S) (k : w.grownBy W row) (hr : some b ≠ row) : MMap W b S := by
  obtain ⟨D, h1, h2⟩ := h
  exact ⟨D, h1.kept k hr, h2⟩
theorem MMap.next {w W : World} {b : Nat} {S : List Int} (h : MMap w b S) (k : Below w.heap.size w W) : MMap W b S := h.grown (row := none) (grown_of_below k none) (by simp)
theorem EMap.grownMap {w w' : World} {b q : Nat} {L : Gr} {S : List Int} (h : EMap w b L) (g : w.grownBy w' (some q)) (m : MMap w q S) (hne : b ≠ q) : EMap w' b L := by
  obtain ⟨D, ⟨es, cl, hb, _⟩, _⟩ := m
  exact h.turned hb g hne
theorem MMap.made (w : World) : MMap (w.alloc (.map #[] 0)) w.heap.size [] := by
  refine ⟨.map [], World.ownsMap_made w _ _ _, List.nodup_nil, rfl, fun x => ?_, fun x => ?_⟩
  · simp [Maps.has_eq]
  · simp [DataW.atKey]
theorem MMap.look {w : World} {b : Nat} {S : List Int} (h : MMap w b S) {x : Int} (hx : wf x) : (Instr.lookup 48 (.map (some b)) (.int .i64 x) false).run Try.prog w = .ok (.int .i64 (if x ∈ S then 1 else 0)) w := by
  obtain ⟨D, h1, h2⟩ := h
  obtain ⟨c, hrun, hat, _⟩ := h1.lookup_int keyI Try.underlying48 Try.underlying3 (Try.zeroValue3 w) (keyOf_i hx)
  rw [h2.val x] at hat
  injection hat with hat
  injection hat with _ hat
  rw [hat]; exact hrun
theorem MD.put {D : DataW Unit} {S : List Int} (h : MD D S) (hm : Maps.Tidy D) {x : Int} (hx : x ∉ S) : MD (D.put (.int .i64 x) (.lit (.int .i64 1))) (x :: S) := by
  have hh : Maps.has D (.int .i64 x) = false := by
    cases e : Maps.has D (.int .i64 x)
    · rfl
    · exact absurd ((h.has x).1 e) hx
  refine ⟨List.nodup_cons.2 ⟨hx, h.nd⟩, ?_, fun y => ?_, fun y => ?_⟩
  · rw [Maps.size_put hm, hh]
    simp [h.size]
  · by_cases e : y = x
    · subst e; rw [Maps.has_put_same hm.isMap (isKey y)]; simp
    · rw [Maps.has_put_other (lit_ne e), h.has y]; simp [e]
  · by_cases e : y = x
    · subst e; rw [Maps.atKey_put_same hm.isMap (isKey y)]; simp
    · rw [Maps.atKey_put_other (lit_ne e), h.val y]; simp [e]
theorem MD.again {D : DataW Unit} {S : List Int} (h : MD D S) (hm : Maps.Tidy D) {x : Int} (hx : x ∈ S) : MD (D.put (.int .i64 x) (.lit (.int .i64 1))) S := by
  refine ⟨h.nd, ?_, fun y => ?_, fun y => ?_⟩
  · rw [Maps.size_put hm, (h.has x).2 hx]
    simp [h.size]
  · by_cases e : y = x
    · subst e; rw [Maps.has_put_same hm.isMap (isKey y)]; simp [hx]
    · rw [Maps.has_put_other (lit_ne e), h.has y]
  · by_cases e : y = x
    · subst e; rw [Maps.atKey_put_same hm.isMap (isKey y)]; simp [hx]
    · rw [Maps.atKey_put_other (lit_ne e), h.val y]
theorem MMap.put {w : World} {b : Nat} {S : List Int} (h : MMap w b S) {x : Int} (hx : wf x) (hl : S.length < 1000) :
    ∃ w', (Instr.mapUpdate 48 (.map (some b)) (.int .i64 x) (.int .i64 1)).run Try.prog w = .ok () w' ∧ MMap w' b (if x ∈ S then S else x :: S) ∧ w.grownBy w' (some b) := by
  obtain ⟨D, h1, h2⟩ := h
  have ht := h1.tidy keyI
  obtain ⟨w', hrun, ho, hg⟩ := h1.update keyI Try.underlying48 (by unfold maxLen; omega) (keyOf_i hx) (val := .int .i64 1) (plainElem_int Try.underlying3 (by decide))
  refine ⟨w', hrun, ?_, hg⟩
  split
  · rename_i hm
    have hd := h2.again ht hm
    refine ⟨_, ?_, hd⟩
    obtain ⟨es, clock, hb, F, hs, hD⟩ := ho
    refine ⟨es, clock, hb, F, ?_, hD⟩
    have := hd.size
    rw [hD] at this
    simp only [Maps.size_eq, length_sorted] at this
    simp at this
    omega
  · rename_i hm
    exact ⟨_, by simpa using ho, h2.put ht hm⟩
def mapSize (w : World) (b : Nat) : Nat := match w.heap[b]? with
  | some (.map es _) => es.size
  | _ => 0
theorem MMap.size {w : World} {b : Nat} {S : List Int} (h : MMap w b S) : mapSize w b = S.length := by
  obtain ⟨D, ⟨es, clock, hb, F, hs, hD⟩, h2⟩ := h
  have := h2.size
  rw [hD] at this
  simp only [Maps.size_eq, length_sorted] at this
  unfold mapSize
  rw [hb]
  simpa using this
/-- A range over a set's map under way: 'done' have come. -/
def MRng (w : World) (b r : Nat) (S done : List Int) (cnt : Nat) : Prop := ∃ (D : DataW Unit) (left : Lit → Bool), w.ranges Try.prog 3 (plainElem Try.prog 3) b r S.length D left cnt ∧ MD D S ∧ done.Nodup ∧
  (∀ x ∈ done, x ∈ S ∧ left (.int .i64 x) = false) ∧ ∀ x ∈ S, x ∉ done → left (.int .i64 x) = true
theorem MRng.map {w : World} {b r : Nat} {S done : List Int} {cnt : Nat} (h : MRng w b r S done cnt) : MMap w b S := by obtain ⟨D, left, h1, h2, _⟩ := h; exact ⟨D, h1.owns, h2⟩
theorem MRng.left_eq {w : World} {b r : Nat} {S done : List Int} {cnt : Nat} (h : MRng w b r S done cnt) : w.rangeLeft b r = cnt := by obtain ⟨D, left, h1, _⟩ := h; exact h1.left_eq
theorem MRng.lt {w : World} {b r : Nat} {S done : List Int} {cnt : Nat} (h : MRng w b r S done cnt) : r < w.heap.size := by obtain ⟨D, left, h1, _⟩ := h; exact h1.lt
theorem MRng.grown {w W : World} {b r : Nat} {S done : List Int} {cnt : Nat} {row : Option Nat} (h : MRng w b r S done cnt) (k : w.grownBy W row) (hb : some b ≠ row) (hr : some r ≠ row) : MRng W b r S done cnt := by
  obtain ⟨D, left, h1, h2⟩ := h
  exact ⟨D, left, h1.kept k hb hr, h2⟩
theorem MRng.next {w W : World} {b r : Nat} {S done : List Int} {cnt : Nat} (h : MRng w b r S done cnt) (k : Below w.heap.size w W) : MRng W b r S done cnt := h.grown (row := none) (grown_of_below k none) (by simp) (by simp)
section
variable {ops : Array Oper} {rest : List Oper} {o : Oper} {a : Act} {Q : Exit → Act → World → Prop}
theorem wpList_put_e {w : World} (hg : o.guard = none) (m x v : Operand) (hop : o.op = Op.mapUpdate 45 m x v) {b : Nat} {L : Gr} (hm : a.eval m = .map (some b)) {k : Int} (hx : a.eval x = .int .i64 k) {A : Option Addr} {n c : Nat} (hv : a.eval v = .slice A n c)
    (h : EMap w b L) (hk : wf k) (hn : ∀ p ∈ L, p.1 ≠ k) (hl : L.length < 1000) {l : List Int} (hr : NRow w A n c l) (hK : ∀ w', EMap w' b (L ++ [(k, l)]) → w.grownBy w' (some b) → wpList Try.prog ops Q rest (a.put o.dst undef) w') : wpList Try.prog ops Q (o :: rest) a w := by
  refine wpList_plain hg fun K' hK' => ?_
  obtain ⟨w', hrun, r1, r2⟩ := h.put hk hn hl hr
  unfold Oper.wp
  simp [execOp, hop, hm, hx, hv, hrun, Result.andThen]
  exact hK' _ _ (hK w' r1 r2)
theorem wpList_put_m {w : World} (hg : o.guard = none) (m x v : Operand) (hop : o.op = Op.mapUpdate 48 m x v) {b : Nat} {S : List Int} (hm : a.eval m = .map (some b)) {k : Int} (hx : a.eval x = .int .i64 k) (hv : a.eval v = .int .i64 1)
    (h : MMap w b S) (hk : wf k) (hl : S.length < 1000) (hK : ∀ w', MMap w' b (if k ∈ S then S else k :: S) → w.grownBy w' (some b) → wpList Try.prog ops Q rest (a.put o.dst undef) w') : wpList Try.prog ops Q (o :: rest) a w := by
  refine wpList_plain hg fun K' hK' => ?_
  obtain ⟨w', hrun, r1, r2⟩ := h.put hk hl
  unfold Oper.wp
  simp [execOp, hop, hm, hx, hv, hrun, Result.andThen]
  exact hK' _ _ (hK w' r1 r2)
theorem wpList_range_m {w : World} (hg : o.guard = none) (m : Operand) (hop : o.op = Op.range 48 m) {b : Nat} {S : List Int} (hm : a.eval m = .map (some b)) (h : MMap w b S)
    (hK : ∀ w' cnt, MRng w' b w.heap.size S [] cnt → w.grownBy w' none → w'.heap.size = w.heap.size + 1 → wpList Try.prog ops Q rest (a.put o.dst (.pointer (some ⟨w.heap.size, 0, none⟩))) w') : wpList Try.prog ops Q (o :: rest) a w := by
  obtain ⟨D, h1, h2⟩ := h
  refine wpList_range_own w hg m _ hop _ _ keyI Try.underlying48 _ b _ D hm h1 fun w' hr hgr hs => ?_
  exact hK w' _ ⟨D, _, hr, h2, List.nodup_nil, by simp, fun x hx _ => (h2.has x).2 hx⟩ hgr hs
theorem wpList_next_m {w : World} (hg : o.guard = none) (it : Operand) (hop : o.op = Op.next it false) {b r : Nat} {S done : List Int} {cnt : Nat} (hit : a.eval it = .pointer (some ⟨r, 0, none⟩)) (h : MRng w b r S done cnt)
    (hDone : (∀ x ∈ S, x ∈ done) → wpList Try.prog ops Q rest (a.put o.dst (.tuple #[.bool false])) w)
    (hMore : ∀ (x c : Int) (w' : World) (cnt' : Nat), x ∈ S → x ∉ done → wf x → MRng w' b r S (done ++ [x]) cnt' → cnt' < cnt → w.grownBy w' (some r) → w'.heap.size = w.heap.size →
      (Instr.entry (.pointer (some ⟨r, 0, none⟩))).run Try.prog w' = .ok (.tuple #[.int .i64 x, .int .i64 c]) w' → wpList Try.prog ops Q rest (a.put o.dst (.tuple #[.bool true, .int .i64 x, .int .i64 c])) w') : wpList Try.prog ops Q (o :: rest) a w := by
  obtain ⟨D, left, h1, h2, h3, h4, h5⟩ := h
  refine wpList_next_ranges_ii w hg it hop _ _ _ _ keyI Try.underlying3 Try.underlying3 b r _ D left cnt hit h1 (fun _ hl => hDone fun x hx => ?_) (fun x c w' cnt' hwx hwc hlx hat hr hlt hgr hs hen => ?_)
  · by_cases hd : x ∈ done
    · exact hd
    · have := h5 x hx hd
      rw [hl] at this
      cases this
  · have hxS : x ∈ S := (h2.has x).1 (Maps.has_true_of_atKey hat)
    have hxd : x ∉ done := fun hd => by rw [(h4 x hd).2] at hlx; cases hlx
    refine hMore x c w' cnt' hxS hxd (.of hwx) ⟨D, _, hr, h2, ?_, fun y hy => ?_, fun y hy hyd => ?_⟩ hlt hgr hs hen
    · rw [List.nodup_append]
      exact ⟨h3, by simp, fun u hu v hv e => by simp at hv; subst hv; exact hxd (e ▸ hu)⟩
    · rcases List.mem_append.1 hy with hy | hy
      · exact ⟨(h4 y hy).1, by simp [(h4 y hy).2]⟩
      · rw [List.mem_singleton] at hy
        subst hy
        exact ⟨hxS, by rw [WideAt.sameKey_self (isKey y)]; simp⟩
    · simp only [List.mem_append, List.mem_singleton, not_or] at hyd
      rw [h5 y hy hyd.1, Maps.sameKey_ne (lit_ne hyd.2)]; rfl
end
end Go.Proofs.Ytpdfhbgemmpleaa.T
