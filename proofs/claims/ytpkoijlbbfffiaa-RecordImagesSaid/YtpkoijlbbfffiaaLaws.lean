/- Laws of my own for the walks: append onto a row of the call's own (the source nil or not; a string), make, copy, string(b). -/
import Derived.Test.YtpkoijlbbfffiaaBytes
import Derived.Lib.AppendStr
import Derived.Laws.MakeOwn
import Derived.Laws.IdiomStrings
import Derived.Laws.BytesString
namespace Go.Proofs.Ytpkoijlbbfffiaa
open Go.RowKit Go.Lib

/-- What the table of types says of a slice type t with elements e. -/
def Elem (P : Program) (t e : TypeId) (size bytes : Nat) (z : Value) : Prop :=
  P.underlying t = some (.slice e) ∧ ∃ i, P.info? e = some i ∧ i.zero = some z ∧ i.size = size ∧ i.bytes = bytes ∧ z.cells.size = size ∧ 0 < size

section
variable {P : Program}
theorem run_app (w : World) {t e : TypeId} {size bytes : Nat} {z : Value} (hE : Elem P t e size bytes z) (ty : TypeId) (base : Nat) {A : Option Addr} {n c : Nat} {xs : List Value}
    (hown : w.ownsRow base e size (.slice A n c) n xs) {B m c' : Nat} {A' : Option Addr} {news : List Value} (hr : Rd w B size A' m news) (h1 : ∀ u ∈ news, u.oneCell' = true)
    (h63 : n + m ≤ maxLen) (hlim : (n + m) * bytes ≤ 140737488355328) (hbase : base ≤ w.heap.size) :
    ∃ A2 c2 w', (Builtin.append_ #[t, t] ty #[.slice A n c, .slice A' m c']).run P w = .ok (.slice A2 (n + m) c2) w' ∧ w'.ownsRow base e size (.slice A2 (n + m) c2) (n + m) (xs ++ news) ∧
      w.grownBy w' (Value.slice A n c).ownBlock ∧ ((Value.slice A2 (n + m) c2).ownBlock = (Value.slice A n c).ownBlock ∨ (Value.slice A2 (n + m) c2).ownBlock = some w.heap.size) := by
  obtain ⟨ht, i, hi, hz, hsize, hby, hzs, hsz⟩ := hE
  have fin : ∀ ad, A' = some ad → (∀ j u, news[j]? = some u → w.cell? (ad.add j) = some u) → ∃ A2 c2 w', (Builtin.append_ #[t, t] ty #[.slice A n c, .slice A' m c']).run P w = .ok (.slice A2 (n + m) c2) w' ∧
      w'.ownsRow base e size (.slice A2 (n + m) c2) (n + m) (xs ++ news) ∧ w.grownBy w' (Value.slice A n c).ownBlock ∧ ((Value.slice A2 (n + m) c2).ownBlock = (Value.slice A n c).ownBlock ∨ (Value.slice A2 (n + m) c2).ownBlock = some w.heap.size) := by
    rintro ad rfl hc
    obtain ⟨v', w', hrun, h2, h3, h4, h5⟩ := run_append_own_at (P := P) w base t ty e i z size bytes ht hi hz hsize hby hzs hsz _ n xs hown ad m c' news hr.1 hc h1 h63 hlim hbase
    rcases h2.2 with ⟨rfl, h0⟩ | ⟨g, cap, cur, rfl, _⟩
    · have e0 : n + m = 0 := h0
      exact ⟨none, 0, w', by rw [hrun, e0], by rw [e0] at h2 ⊢; exact h2, h3, by rw [e0]; exact h5⟩
    · exact ⟨_, _, w', hrun, h2, h3, h5⟩
  by_cases hm : 0 < news.length
  · obtain ⟨b, off, rfl, _, hc⟩ := hr.2 hm
    refine fin _ rfl fun j u hu => ?_
    have hj : j < news.length := by
      rcases Nat.lt_or_ge j news.length with h | h
      · exact h
      · rw [List.getElem?_eq_none h] at hu; cases hu
    have := hc j hj
    rw [hu] at this
    by_cases h0 : j = 0
    · subst h0; simpa [Addr.add] using this
    · simpa [Addr.add, h0] using this
  · have hn : news = [] := List.eq_nil_of_length_eq_zero (by omega)
    have hm0 : m = 0 := by
      have := hr.1
      rw [hn] at this
      rcases Nat.eq_zero_or_pos m with h | h
      · exact h
      · have := Nat.mul_pos h hsz; simp_all
    subst hm0 hn
    rcases A' with _ | ad
    · have hrun : (Builtin.append_ #[t, t] ty #[.slice A n c, .slice none 0 c']).run P w = .ok (.slice A n c) w := by
        rcases hown.2 with ⟨hv, _⟩ | ⟨g, cap, cur, hv, _, _, hnc, _⟩
        · rw [hv]
          simp [Builtin.append_, run_underlying ht, sizeOf, typeInfo, hi, Builtin.lenOf, Builtin.firstCells]
        · rw [hv]
          simp [Builtin.append_, run_underlying ht, sizeOf, typeInfo, hi, Builtin.lenOf, Builtin.firstCells, hnc, storeCells]
      exact ⟨A, c, w, hrun, by simpa using hown, ⟨rfl, rfl, rfl, Nat.le_refl _, fun _ _ _ => rfl⟩, .inl rfl⟩
    · exact fin ad rfl (fun j u hu => by simp at hu)

theorem wpList_app {w : World} {ops : Array Oper} {rest : List Oper} {o : Oper} {a : Act} {Q : Exit → Act → World → Prop} (hgd : o.guard = none) (s x : Operand) {t e : TypeId} {size bytes : Nat} {z : Value}
    (hE : Elem P t e size bytes z) (ho : o.op = .call { callee := .builtin .append, args := #[s, x], argTypes := #[t, t] })
    (base : Nat) {A : Option Addr} {n c : Nat} (xs : List Value) (hs : a.eval s = .slice A n c) (hown : w.ownsRow base e size (.slice A n c) n xs)
    {m c' : Nat} {A' : Option Addr} (hx : a.eval x = .slice A' m c') {B : Nat} (news : List Value) (hr : Rd w B size A' m news) (h1 : ∀ u ∈ news, u.oneCell' = true)
    (h63 : n + m ≤ maxLen) (hlim : (n + m) * bytes ≤ 140737488355328) (hbase : base ≤ w.heap.size)
    (h : ∀ A2 c2 w', w'.ownsRow base e size (.slice A2 (n + m) c2) (n + m) (xs ++ news) → w.grownBy w' (Value.slice A n c).ownBlock → ((Value.slice A2 (n + m) c2).ownBlock = (Value.slice A n c).ownBlock ∨ (Value.slice A2 (n + m) c2).ownBlock = some w.heap.size) →
      wpList P ops Q rest (a.put o.dst (.slice A2 (n + m) c2)) w') : wpList P ops Q (o :: rest) a w := by
  obtain ⟨A2, c2, w', hrun, h2, h3, h4⟩ := run_app (P := P) w hE o.type base hown (c' := c') hr h1 h63 hlim hbase
  refine wpList_plain hgd fun K hK => ?_
  unfold Oper.wp execOp
  simp only [ho, resolve, invoke, builtin, Sem.run_bind, Sem.run_pure, Result.andThen_ok, List.map_toArray, List.map_cons, List.map_nil, hs, hx, hrun]
  exact hK _ _ (h A2 c2 w' h2 h3 h4)

/-- What an append to a row of the call's own does to all that was there before. -/
theorem below_app {base : Nat} {w0 w w' : World} {v : Value} {e : TypeId} {size n : Nat} {xs : List Value} (hb : Below base w0 w) (hown : w.ownsRow base e size v n xs) (hg : w.grownBy w' v.ownBlock) (hbase : base ≤ w.heap.size) : Below base w0 w' :=
  hb.grown hg hbase fun k hk => (hown.lt k hk).1

/-- The one-element slice that 'append(s, x)' makes of x. -/
theorem Rd.built (w : World) (v : Value) (e : TypeId) : Rd (w.alloc (.cells #[v] e)) (w.heap.size + 1) 1 (some ⟨w.heap.size, 0, none⟩) 1 [v] := by
  refine ⟨by simp, fun _ => ⟨w.heap.size, 0, rfl, by omega, fun j hj => ?_⟩⟩
  have : j = 0 := by simpa using hj
  subst this
  rw [cell_of_row (w.alloc (.cells #[v] e)) w.heap.size _ #[v] e (0, 0) (heap_alloc_new w _)]
  rfl

/-- 'string(b)'. -/
theorem run_str (w : World) {src dst e : TypeId} (hs : P.underlying src = some (.slice e)) (he : P.underlying e = some (.int .u8)) (hd : P.underlying dst = some .string)
    {B n c : Nat} {A : Option Addr} {l : List UInt8} (h : Rd w B 1 A n (bv l)) : (convert src dst (.slice A n c)).run P w = .ok (.string ⟨l.toArray⟩) w := by
  have hl : l.length = n := by have := h.1; simp at this; omega
  subst hl
  rcases A with _ | ad
  · have h0 : l = [] := by
      rcases l with _ | ⟨x, l⟩
      · rfl
      · obtain ⟨b, off, e1, _⟩ := h.2 (by simp); cases e1
    subst h0
    rw [List.length_nil, run_convert_bytes_string w src dst e none 0 c hs he hd]
    simp [Conv.bytesToString]
    rfl
  · refine run_convert_bytes_back w src dst e ad c l hs he hd fun j hj => ?_
    obtain ⟨b, off, e1, _, hc⟩ := h.2 (by simp; omega)
    injection e1 with e1
    subst e1
    have := hc j (by simpa using hj)
    rw [bv_get l j hj] at this
    by_cases h0 : j = 0
    · subst h0; simpa [Addr.add] using this
    · simpa [Addr.add, h0] using this
theorem wpList_str {w : World} {ops : Array Oper} {rest : List Oper} {o : Oper} {a : Act} {Q : Exit → Act → World → Prop} (hgd : o.guard = none) {src dst e : TypeId} (x : Operand)
    (ho : o.op = .convert src dst x) (hs : P.underlying src = some (.slice e)) (he : P.underlying e = some (.int .u8)) (hd : P.underlying dst = some .string)
    {n c : Nat} {A : Option Addr} (hx : a.eval x = .slice A n c) {B : Nat} {l : List UInt8} (h : Rd w B 1 A n (bv l)) (hk : wpList P ops Q rest (a.put o.dst (.string ⟨l.toArray⟩)) w) : wpList P ops Q (o :: rest) a w := by
  refine wpList_plain hgd fun K hK => ?_
  have hrun := run_str (P := P) w hs he hd (c := c) h
  unfold Oper.wp
  simp only [execOp, ho, hx, Sem.run_bind, hrun, Result.andThen_ok, Sem.run_pure]
  exact hK _ _ hk

theorem strCells_bv (l : List UInt8) : strCells ⟨l.toArray⟩ = bv l := by simp [strCells, bv]
/-- append(out, s...) of a string's bytes. -/
theorem wpList_app_str {w : World} {ops : Array Oper} {rest : List Oper} {o : Oper} {a : Act} {Q : Exit → Act → World → Prop} (hgd : o.guard = none) (s x : Operand) {t u e : TypeId}
    (hE : Elem P t e 1 1 (.int .u8 0)) (hu : P.underlying u = some .string) (ho : o.op = .call { callee := .builtin .append, args := #[s, x], argTypes := #[t, u] })
    (base : Nat) {A : Option Addr} {n c : Nat} (xs : List Value) (hs : a.eval s = .slice A n c) (hown : w.ownsRow base e 1 (.slice A n c) n xs) (l : List UInt8) (hx : a.eval x = .string ⟨l.toArray⟩)
    (hlim : n + l.length ≤ 140737488355328) (hbase : base ≤ w.heap.size)
    (h : ∀ A2 c2 w', w'.ownsRow base e 1 (.slice A2 (n + l.length) c2) (n + l.length) (xs ++ bv l) → w.grownBy w' (Value.slice A n c).ownBlock → wpList P ops Q rest (a.put o.dst (.slice A2 (n + l.length) c2)) w') : wpList P ops Q (o :: rest) a w := by
  obtain ⟨ht, i, hi, hz, hsize, hby, hzs, hsz⟩ := hE
  refine wpList_append_own_string (P := P) w hgd s x t u ho base e i ht hu hi hz hsize hby _ n xs hs hown ⟨l.toArray⟩ hx (by simp [maxLen, ByteArray.size]; omega) (by simpa [ByteArray.size] using hlim) hbase ?_
  intro v' w' h2 h3 _
  rw [strCells_bv] at h2
  have hsz : (ByteArray.mk l.toArray).size = l.length := by simp [ByteArray.size]
  rw [hsz] at h2
  rcases h2.2 with ⟨rfl, h0⟩ | ⟨g, cap, cur, rfl, _⟩
  · have := h none 0 w' (by rw [h0] at h2 ⊢; exact h2) h3
    rwa [h0] at this
  · exact h _ _ w' h2 h3

/-- A new row of n cells, room for c. -/
theorem own_made (w : World) {base e n c : Nat} (cur : Array Value) (hb : base ≤ w.heap.size) (hc : c ≤ maxLen) (hs : cur.size = c) (hn : n ≤ c) :
    (w.alloc (.cells cur e)).ownsRow base e 1 (.slice (some ⟨w.heap.size, 0, none⟩) n c) n (cur.toList.take n) :=
  ⟨by simp; omega, .inr ⟨w.heap.size, c, cur, rfl, hb, heap_alloc_new w _, hn, hc, by simpa using hs, by simp⟩⟩

/-- copy(out, b): out is a row of the call's own, b is as long as out or shorter. -/
theorem wpList_copy_rd {w : World} {ops : Array Oper} {rest : List Oper} {o : Oper} {a : Act} {Q : Exit → Act → World → Prop} (hgd : o.guard = none) (d s : Operand) {t e : TypeId} {bytes : Nat} {z : Value}
    (hE : Elem P t e 1 bytes z) (ho : o.op = .call { callee := .builtin .copy, args := #[d, s], argTypes := #[t, t] })
    (base : Nat) {A : Option Addr} {n c : Nat} (zs : List Value) (hd : a.eval d = .slice A n c) (hown : w.ownsRow base e 1 (.slice A n c) n zs)
    {m c' : Nat} {A' : Option Addr} (hs : a.eval s = .slice A' m c') {B : Nat} (xs : List Value) (hr : Rd w B 1 A' m xs) (h1 : ∀ u ∈ xs, u.oneCell' = true) (hmn : m ≤ n)
    (h : ∀ w', w'.ownsRow base e 1 (.slice A n c) n (xs ++ zs.drop m) → w.grownBy w' (Value.slice A n c).ownBlock → wpList P ops Q rest (a.put o.dst (goInt m)) w') : wpList P ops Q (o :: rest) a w := by
  obtain ⟨ht, i, hi, hz, hsize, hby, hzs, hsz⟩ := hE
  have hxl : xs.length = m := by have := hr.1; omega
  have hsz1 : (P.info? e).map (·.size) = some 1 := by simp [hi, hsize]
  by_cases hm : m = 0
  · subst hm
    have hx0 : xs = [] := List.eq_nil_of_length_eq_zero hxl
    subst hx0
    refine wpList_copy_nothing hgd d s t t ho e ht hsz1 A A' n c 0 c' hd hs (by simp) ?_
    exact h w (by simpa using hown) ⟨rfl, rfl, rfl, Nat.le_refl _, fun _ _ _ => rfl⟩
  · obtain ⟨b, off, rfl, _, hc⟩ := hr.2 (by omega)
    rcases hown.2 with ⟨_, h0⟩ | ⟨g, cap, cur, hv, hbg, hg, hnc, hcm, hcs, htake⟩
    · omega
    · injection hv with hA _ hcc
      subst hA hcc
      have hsrc : ∀ j v, xs[j]? = some v → w.cell? ((⟨b, off, none⟩ : Addr).add j) = some v := by
        intro j u hu
        have hj : j < xs.length := by
          rcases Nat.lt_or_ge j xs.length with h | h
          · exact h
          · rw [List.getElem?_eq_none h] at hu; cases hu
        have := hc j hj
        rw [hu] at this
        by_cases h0 : j = 0
        · subst h0; simpa [Addr.add] using this
        · simpa [Addr.add, h0] using this
      refine wpList_copy_own hgd d s t t ho e ht hsz1 g 0 n c ⟨b, off, none⟩ m c' hd hs cur e hg xs (by rw [hxl]; exact (Nat.min_eq_left hmn).symm) hsrc (by simp at hcs; omega) h1 ?_
      rw [hxl]
      refine h _ ⟨by have := hown.1; simp at this ⊢; omega, .inr ⟨g, c, _, rfl, hbg, setRow_heap w g cur _ e _ hg, hnc, hcm, ?_, ?_⟩⟩ ⟨rfl, rfl, rfl, by simp, fun k _ hk => setRow_other w g k _ (fun e => hk (by simp [Value.ownBlock, e]))⟩
      · simp at hcs ⊢; omega
      · simp only [Nat.mul_one] at htake ⊢
        rw [← htake]
        simp only [List.take_zero, List.nil_append, Nat.zero_add]
        rw [List.take_append, List.take_of_length_le (by omega), hxl, List.drop_take]

theorem grown_of_below {w w' : World} (h : Below w.heap.size w w') (row : Option Nat) : w.grownBy w' row := ⟨h.os, h.tape, h.output, h.size, fun i hi _ => h.block i hi⟩
/-- What is the call's own stays so behind a callee that leaves old memory alone. -/
theorem own_below {w w' : World} {base e size n : Nat} {v : Value} {xs : List Value} (h : w.ownsRow base e size v n xs) (hb : Below w.heap.size w w') : w'.ownsRow base e size v n xs :=
  h.kept (grown_of_below hb none) (by cases hv : v.ownBlock <;> simp)
theorem own_more {w : World} {base base' e size n : Nat} {v : Value} {xs : List Value} (h : w.ownsRow base e size v n xs) (hb : base' ≤ base) : w.ownsRow base' e size v n xs := by
  refine ⟨h.1, ?_⟩
  rcases h.2 with h0 | ⟨g, cap, cur, e1, hg, rest⟩
  · exact .inl h0
  · exact .inr ⟨g, cap, cur, e1, Nat.le_trans hb hg, rest⟩
/-- The row of a slice literal. -/
theorem own_lit (w : World) {base e : Nat} (l : List Value) (hb : base ≤ w.heap.size) (hl : l.length ≤ maxLen) :
    (w.alloc (.cells l.toArray e)).ownsRow base e 1 (.slice (some ⟨w.heap.size, 0, none⟩) l.length l.length) l.length l :=
  ⟨by simp, .inr ⟨w.heap.size, l.length, l.toArray, rfl, hb, heap_alloc_new w _, Nat.le_refl _, hl, by simp, by simp⟩⟩

/-- '[]byte(s)'. -/
theorem wpList_bytes {w : World} {ops : Array Oper} {rest : List Oper} {o : Oper} {a : Act} {Q : Exit → Act → World → Prop} (hgd : o.guard = none) {src dst e : TypeId} (x : Operand)
    (ho : o.op = .convert src dst x) (hs : P.underlying src = some .string) (hd : P.underlying dst = some (.slice e)) (he : P.underlying e = some (.int .u8)) (l : List UInt8) (hx : a.eval x = .string ⟨l.toArray⟩)
    (h : ∀ A n c w', l.length = n → n ≤ c → Rd w' w'.heap.size 1 A n (bv l) → Below w.heap.size w w' → wpList P ops Q rest (a.put o.dst (.slice A n c)) w') : wpList P ops Q (o :: rest) a w := by
  refine wpList_plain hgd fun K hK => ?_
  have hrun := run_bytes_of_string (P := P) w src dst e ⟨l.toArray⟩ hs hd he
  have hsz : (ByteArray.mk l.toArray).size = l.length := by simp [ByteArray.size]
  rw [hsz] at hrun
  unfold Oper.wp
  simp only [execOp, ho, hx, Sem.run_bind, hrun, Result.andThen_ok, Sem.run_pure]
  refine hK _ _ (h _ _ _ _ rfl (grownCap_ge w l.length 0 e) ⟨by simp, fun hp => ⟨w.heap.size, 0, rfl, by simp, fun j hj => ?_⟩⟩ ?_)
  · have hj' : j < l.length := by simpa using hj
    rw [Nat.zero_add, cell_of_row _ w.heap.size j _ e _ (heap_alloc_new w.drew _), bv_get l j hj']
    simp [bytesRow, Array.getElem?_append, hj']
  · exact ((Below.refl _ _).drew).alloc (Nat.le_refl _) _

theorem own_at {w : World} {base e size n c : Nat} {A : Option Addr} {xs : List Value} (h : w.ownsRow base e size (.slice A n c) n xs) (hn : 0 < n) : ∃ g, A = some ⟨g, 0, none⟩ ∧ base ≤ g ∧ g < w.heap.size := by
  obtain ⟨g, cap, hv, hb, hl⟩ := h.form hn
  injection hv with hA
  exact ⟨g, hA, hb, hl⟩
theorem bv_set (l : List UInt8) (k : Nat) (c : UInt8) : (bv l).set k (.int .u8 (c.toNat : Int)) = bv (l.set k c) := by simp [bv, List.map_set]
end
end Go.Proofs.Ytpkoijlbbfffiaa
