/- An append to a row of the call's own: the shorter row reads as it did. -/
import Derived.Test.YtpdfhbgemmpleaaWtMore
import Derived.ArgAppend
namespace Go.Proofs.Ytpdfhbgemmpleaa.T
open Go.RowKit

theorem app_keeps {P : Program} {w : World} {t e : TypeId} {size bytes : Nat} {z : Value} (hE : Elem P t e size bytes z) (ty : TypeId) (base : Nat) {A : Option Addr} {n c : Nat} {xs : List Value}
    (hown : w.ownsRow base e size (.slice A n c) n xs) {B m c' : Nat} {A' : Option Addr} {news : List Value} (hr : Rd w B size A' m news) (h1 : ∀ u ∈ news, u.oneCell' = true) (hm : 0 < m)
    (h63 : n + m ≤ maxLen) (hlim : (n + m) * bytes ≤ 140737488355328) (hbase : base ≤ w.heap.size) :
    ∃ A2 c2 w', (Builtin.append_ #[t, t] ty #[.slice A n c, .slice A' m c']).run P w = .ok (.slice A2 (n + m) c2) w' ∧ w'.ownsRow base e size (.slice A2 (n + m) c2) (n + m) (xs ++ news) ∧
      w.grownBy w' (Value.slice A n c).ownBlock ∧ Rd w' w'.heap.size size A n xs := by
  obtain ⟨A2, c2, w', hrun, h2, h3, h4⟩ := run_app (P := P) w hE ty base hown (c' := c') hr h1 h63 hlim hbase
  refine ⟨A2, c2, w', hrun, h2, h3, ?_⟩
  obtain ⟨ht, i, hi, hz, hsize, hby, hzs, hsz⟩ := hE
  have hlen := hown.1
  rcases hown.2 with ⟨hv, h0⟩ | ⟨g, cap, cur, hv, hb, hg, hnc, hcm, hs, htk⟩
  · subst h0
    have : xs = [] := List.eq_nil_of_length_eq_zero (by simpa using hlen)
    subst this
    exact ⟨by simp, fun h => absurd h (by simp)⟩
  · injection hv with hA _ hc
    subst hA hc
    have hnl : news.length = m * size := hr.1
    have hpos : 0 < news.length := by rw [hnl]; exact Nat.mul_pos hm hsz
    obtain ⟨b', off', rfl, hb', hcells⟩ := hr.2 hpos
    have hnews : ∀ j u, news[j]? = some u → w.cell? ((⟨b', off', none⟩ : Addr).add j) = some u := fun j u hj => by
      have hjl : j < news.length := (List.getElem?_eq_some_iff.1 hj).1
      have h5 := hcells j hjl
      have hadd : (⟨b', off', none⟩ : Addr).add j = ⟨b', off' + j, none⟩ := by by_cases h0 : j = 0 <;> simp [Addr.add, h0]
      rw [hadd, h5, hj]
    have hold := Rd.of_own hown
    by_cases hroom : n + m ≤ c
    · have hcell : ∀ k, k < c * size → (w.cell? ⟨g, k, none⟩).isSome = true := fun k hk => by
        rw [World.cell?_of_block (w := w) rfl]
        simp [World.cell?, hg]
        omega
      have h6 := run_append_room_cells (P := P) (w := w) t ty e i ht hi g 0 n c ⟨b', off', none⟩ m c' news (by rw [hsize]; exact hnl) hnews h1 hroom (fun j hj => hcell _ (by
        rw [hsize]
        have : (n + m) * size ≤ c * size := Nat.mul_le_mul_right _ hroom
        rw [Nat.add_mul] at this
        omega)) (fun j _ => Lib.frozen_of_heap hg _)
      rw [hrun] at h6
      injection h6 with h6 _
      injection h6 with h6 _ _
      subst h6
      have h7 := Rd.of_own h2
      refine ⟨hlen, fun hp => ?_⟩
      obtain ⟨b, off, e1, hlt, hc2⟩ := h7.2 (by rw [List.length_append]; omega)
      injection e1 with e1
      injection e1 with e1 e2
      subst e1 e2
      exact ⟨g, 0, rfl, hlt, fun j hj => by rw [hc2 j (by rw [List.length_append]; omega), List.getElem?_append_left hj]⟩
    · have holds : ∀ j u, xs[j]? = some u → w.cell? ((⟨g, 0, none⟩ : Addr).add j) = some u := fun j u hj => by
        have hjl : j < xs.length := (List.getElem?_eq_some_iff.1 hj).1
        obtain ⟨b, off, e1, hlt, hc2⟩ := hold.2 (by omega)
        injection e1 with e1
        injection e1 with e1 e2
        subst e1 e2
        have h5 := hc2 j hjl
        have hadd : (⟨g, 0, none⟩ : Addr).add j = ⟨g, 0 + j, none⟩ := by by_cases h0 : j = 0 <;> simp [Addr.add, h0]
        rw [hadd, h5, hj]
      obtain ⟨v', w2, h6, _, h8⟩ := run_append_arg_grows (P := P) (w := w) t ty e i z size bytes ht hi hz hsize hby hzs hsz ⟨g, 0, none⟩ n c xs hlen holds ⟨b', off', none⟩ m c' news hnl hnews (by omega) h63 hlim
      rw [hrun] at h6
      injection h6 with _ h6
      subst h6
      exact hold.next ⟨h8.os, h8.tape, h8.output, h8.size, fun k hk => h8.block k hk (by simp)⟩
theorem wpList_keeps {P : Program} {w : World} {ops : Array Oper} {rest : List Oper} {o : Oper} {a : Act} {Q : Exit → Act → World → Prop} (hgd : o.guard = none) (s x : Operand) {t e : TypeId} {size bytes : Nat} {z : Value}
    (hE : Elem P t e size bytes z) (ho : o.op = .call { callee := .builtin .append, args := #[s, x], argTypes := #[t, t] })
    (base : Nat) {A : Option Addr} {n c : Nat} (xs : List Value) (hs : a.eval s = .slice A n c) (hown : w.ownsRow base e size (.slice A n c) n xs)
    {m c' : Nat} {A' : Option Addr} (hx : a.eval x = .slice A' m c') {B : Nat} (news : List Value) (hr : Rd w B size A' m news) (h1 : ∀ u ∈ news, u.oneCell' = true) (hm : 0 < m)
    (h63 : n + m ≤ maxLen) (hlim : (n + m) * bytes ≤ 140737488355328) (hbase : base ≤ w.heap.size)
    (h : ∀ A2 c2 w', w'.ownsRow base e size (.slice A2 (n + m) c2) (n + m) (xs ++ news) → w.grownBy w' (Value.slice A n c).ownBlock → Rd w' w'.heap.size size A n xs →
      wpList P ops Q rest (a.put o.dst (.slice A2 (n + m) c2)) w') : wpList P ops Q (o :: rest) a w := by
  obtain ⟨A2, c2, w', hrun, h2, h3, h4⟩ := app_keeps (P := P) hE o.type base hown (c' := c') hr h1 hm h63 hlim hbase
  refine wpList_plain hgd fun K hK => ?_
  unfold Oper.wp execOp
  simp only [ho, resolve, invoke, builtin, Sem.run_bind, Sem.run_pure, Result.andThen_ok, List.map_toArray, List.map_cons, List.map_nil, hs, hx, hrun]
  exact hK _ _ (h A2 c2 w' h2 h3 h4)
end Go.Proofs.Ytpdfhbgemmpleaa.T
