/- An append of one cell to a row of the call's own, of whose whole block something holds: it holds of the new block. No program in sight. -/
import Derived.Test.YtkcehoejcklmfaaLaws
import Derived.ArgAppend
namespace Go.Proofs.Ytkcehoejcklmfaa
open Go.RowKit

/-- All cells of the block at which A lies are so. -/
def AllOf (p : Value → Prop) (w : World) (e : TypeId) (A : Option Addr) : Prop := ∀ g, A.map (·.block) = some g → ∃ cs, w.heap[g]? = some (.cells cs e (0, 0)) ∧ ∀ v ∈ cs, p v
theorem zero_all {p : Value → Prop} {z : Array Value} {n : Nat} (h0 : 0 < z.size) (h : ∀ v ∈ z, p v) : ∀ v ∈ Builtin.zeroCells z n, p v := by
  intro v hv
  unfold Builtin.zeroCells at hv
  obtain ⟨i, _, rfl⟩ := Array.mem_map.1 hv
  rw [getElem!_pos z (i % z.size) (Nat.mod_lt _ h0)]
  exact h _ (Array.getElem_mem _)
theorem app_all {P : Program} {w : World} {p : Value → Prop} {t e : TypeId} {bytes : Nat} {z : Value} (hE : Elem P t e 1 bytes z) (ty : TypeId) (base : Nat) {A : Option Addr} {n c : Nat} {xs : List Value}
    (hown : w.ownsRow base e 1 (.slice A n c) n xs) (hall : AllOf p w e A) (hpz : ∀ v ∈ z.cells, p v) {b : Nat} {u : Value} (hu : w.cell? ⟨b, 0, none⟩ = some u) (h1 : u.oneCell' = true) (hpu : p u)
    (h63 : n + 1 ≤ maxLen) (hlim : (n + 1) * bytes ≤ 140737488355328) (hbase : base ≤ w.heap.size) :
    ∃ A2 c2 w', (Builtin.append_ #[t, t] ty #[.slice A n c, .slice (some ⟨b, 0, none⟩) 1 1]).run P w = .ok (.slice A2 (n + 1) c2) w' ∧ w'.ownsRow base e 1 (.slice A2 (n + 1) c2) (n + 1) (xs ++ [u]) ∧
      w.grownBy w' (Value.slice A n c).ownBlock ∧ AllOf p w' e A2 := by
  have hbl := World.block_lt_of_cell? w _ hu
  have hr : Rd w w.heap.size 1 (some ⟨b, 0, none⟩) 1 [u] := ⟨rfl, fun _ => ⟨b, 0, rfl, hbl, fun j hj => by
    have : j = 0 := by simpa using hj
    subst this; simpa using hu⟩⟩
  obtain ⟨A2, c2, w', hrun, h2, h3, h4⟩ := run_app (P := P) w hE ty base hown (c' := 1) hr (by simpa using h1) h63 hlim hbase
  refine ⟨A2, c2, w', hrun, h2, h3, fun g hg => ?_⟩
  obtain ⟨ht, i, hi, hz, hsize, hby, hzs, _⟩ := hE
  have hnews : ∀ j v, ([u] : List Value)[j]? = some v → w.cell? ((⟨b, 0, none⟩ : Addr).add j) = some v := fun j v hj => by
    have hj0 : j = 0 := by have := (List.getElem?_eq_some_iff.1 hj).1; simpa using this
    subst hj0
    simp at hj
    subst hj
    simpa [Addr.add] using hu
  have hz0 : 0 < z.cells.size := by omega
  rcases hown.2 with ⟨hv, h0⟩ | ⟨q, cap, cur, hv, hb, hq, hnc, hcm, hs, htk⟩
  · injection hv with hA _ hc
    subst hA hc h0
    have h6 := run_append_nil (P := P) (w := w) t ty e i z ht hi hz ⟨b, 0, none⟩ 1 1 [u] (by simp [hsize]) hnews (by omega) (by omega) (by rw [hby]; omega)
    rw [Nat.zero_add] at hrun
    rw [hrun] at h6
    injection h6 with h6 h7
    injection h6 with h6 _ _
    subst h6 h7
    have hgw : g = w.heap.size := by simpa using hg.symm
    subst hgw
    refine ⟨_, heap_alloc_new w.drew _, fun v hv => ?_⟩
    rcases Array.mem_append.1 hv with hv | hv
    · have : v = u := by simpa using hv
      subst this; exact hpu
    · exact zero_all hz0 hpz v hv
  · injection hv with hA _ hc
    subst hA hc
    obtain ⟨cs, hcs, hpc⟩ := hall q rfl
    rw [hq] at hcs
    injection hcs with hcs
    injection hcs with hcs _ _
    subst hcs
    by_cases hroom : n + 1 ≤ c
    · have h6 := run_append_room_cells (P := P) (w := w) t ty e i ht hi q 0 n c ⟨b, 0, none⟩ 1 1 [u] (by simp [hsize]) hnews (by simpa using h1) hroom (fun j hj => by
        have hj0 : j = 0 := by simpa using hj
        subst hj0
        rw [World.cell?_of_block (w := w) rfl]
        simp [World.cell?, hq, hsize]
        omega) (fun j _ => Lib.frozen_of_heap hq _)
      rw [hrun] at h6
      injection h6 with h6 h7
      injection h6 with h6 _ _
      subst h6 h7
      have hgq : g = q := by simpa using hg.symm
      subst hgq
      refine ⟨cur.setIfInBounds (0 + n * i.size) u, ?_, fun v hv => ?_⟩
      · show (w.setCell ⟨g, 0 + n * i.size, none⟩ u).heap[g]? = _
        unfold World.setCell
        simp [hq, Array.getElem?_modify]
      · rcases Array.mem_or_eq_of_mem_setIfInBounds hv with hv | rfl
        · exact hpc v hv
        · exact hpu
    · have hold := Rd.of_own hown
      have hlen := hown.1
      have holds : ∀ j v, xs[j]? = some v → w.cell? ((⟨q, 0, none⟩ : Addr).add j) = some v := fun j v hj => by
        have hjl : j < xs.length := (List.getElem?_eq_some_iff.1 hj).1
        obtain ⟨b', off, e1, hlt, hc2⟩ := hold.2 (by omega)
        injection e1 with e1
        injection e1 with e1 e2
        subst e1 e2
        have h5 := hc2 j hjl
        have hadd : (⟨q, 0, none⟩ : Addr).add j = ⟨q, 0 + j, none⟩ := by by_cases h0 : j = 0 <;> simp [Addr.add, h0]
        rw [hadd, h5, hj]
      have hfit : Builtin.nextslicecap (n + 1) c * i.bytes ≤ 281474976710656 := growslice_fits (by omega) (by rw [hby]; exact hlim)
      have h6 := run_append_grow (P := P) w t ty e i z ht hi hz ⟨q, 0, none⟩ n c xs (by rw [hsize]; exact hlen) holds ⟨b, 0, none⟩ 1 1 [u] (by simp [hsize]) hnews (by omega) (by unfold maxLen at h63; omega) hfit
      rw [hrun] at h6
      injection h6 with h6 h7
      injection h6 with h6 _ _
      subst h6 h7
      have hgw : g = w.heap.size := by simpa using hg.symm
      subst hgw
      refine ⟨_, heap_alloc_new w.drew _, fun v hv => ?_⟩
      rcases Array.mem_append.1 hv with hv | hv
      · rcases Array.mem_append.1 hv with hv | hv
        · have hvx : v ∈ xs := by simpa using hv
          rw [← htk] at hvx
          exact hpc v (by simpa using List.mem_of_mem_take hvx)
        · have : v = u := by simpa using hv
          subst this; exact hpu
      · exact zero_all hz0 hpz v hv
theorem wpList_all {P : Program} {w : World} {p : Value → Prop} {ops : Array Oper} {rest : List Oper} {o : Oper} {a : Act} {Q : Exit → Act → World → Prop} (hgd : o.guard = none) (s x : Operand) {t e : TypeId} {bytes : Nat} {z : Value}
    (hE : Elem P t e 1 bytes z) (ho : o.op = .call { callee := .builtin .append, args := #[s, x], argTypes := #[t, t] })
    (base : Nat) {A : Option Addr} {n c : Nat} {xs : List Value} (hs : a.eval s = .slice A n c) (hown : w.ownsRow base e 1 (.slice A n c) n xs) (hall : AllOf p w e A) (hpz : ∀ v ∈ z.cells, p v)
    {b : Nat} {u : Value} (hx : a.eval x = .slice (some ⟨b, 0, none⟩) 1 1) (hu : w.cell? ⟨b, 0, none⟩ = some u) (h1 : u.oneCell' = true) (hpu : p u)
    (h63 : n + 1 ≤ maxLen) (hlim : (n + 1) * bytes ≤ 140737488355328) (hbase : base ≤ w.heap.size)
    (h : ∀ A2 c2 w', w'.ownsRow base e 1 (.slice A2 (n + 1) c2) (n + 1) (xs ++ [u]) → w.grownBy w' (Value.slice A n c).ownBlock → AllOf p w' e A2 → wpList P ops Q rest (a.put o.dst (.slice A2 (n + 1) c2)) w') : wpList P ops Q (o :: rest) a w := by
  obtain ⟨A2, c2, w', hrun, h2, h3, h4⟩ := app_all (P := P) hE o.type base hown hall hpz hu h1 hpu h63 hlim hbase
  refine wpList_plain hgd fun K hK => ?_
  unfold Oper.wp execOp
  simp only [ho, resolve, invoke, builtin, Sem.run_bind, Sem.run_pure, Result.andThen_ok, List.map_toArray, List.map_cons, List.map_nil, hs, hx, hrun]
  exact hK _ _ (h A2 c2 w' h2 h3 h4)
end Go.Proofs.Ytkcehoejcklmfaa
