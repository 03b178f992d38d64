/- Texts of the proof, joined: SynGrow. -/
import Derived.Test.YtnbmpfdffoidaaaGreatEx10
import Derived.Test.YtnbmpfdffoidaaaGreatEx12
set_option linter.unusedVariables false
set_option linter.unusedSimpArgs false
set_option maxHeartbeats 8000000
set_option maxRecDepth 100000
namespace Go.Proofs.YtnbmpfdffoidaaaGreat.Y
open Go.RowKit O V S X
abbrev uv (n : Nat) : Value := .int .u64 (n : Int)
abbrev lfV (x : Ex) : Value := exVal (hdK x) (hdV x).k (hdV x).n (hdV x).s (hdN x) (hdC x) (hdO x : Nat) (.slice none 0 0) 0 0 0
theorem leaf_any (n : Nat) (hn : n < 18446744073709551616) (w : World) : Calls Tryz.prog 24 #[uv n] w fun e w' => e = .returned (lfV (leafX n)) ∧ Below w.heap.size w w' := by
 have hr : n % 3 = 0 ∨ n % 3 = 1 ∨ n % 3 = 2 := by omega
 rcases hr with h | h | h
 ·have e : leafX n = .var [120] := by unfold leafX; rw [if_pos h]
  rw [e]
  have h3 : (n : Int) % 3 = 0 := by omega
  have d : ((n : Int) % 3 == 0) = true := by simp [h3]
  go_enter Tryz.func24, Tryz.ntmps24
  go_wp2_with fail
  refine bodyPost_ret (v := lfV (.var [120])) (by simp [results, Tryz.results24, go_sem, hdK, hdV, hdN, hdC, hdO, zv]) rfl ?_
  refine ⟨rfl, ?_⟩
  repeat (first | (with_reducible exact Below.refl _ _) | (with_reducible assumption) | refine Below.setCell ?_ (by simp <;> omega) _ | refine Below.alloc ?_ (by simp <;> omega) _ | refine Below.drew ?_)
 ·have e : leafX n = .val ⟨1, ((n % 100 : Nat) : Int), []⟩ := by unfold leafX; rw [if_neg (by omega), if_pos h]
  rw [e]
  have h3 : (n : Int) % 3 = 1 := by omega
  have d : ((n : Int) % 3 == 0) = false := by simp [h3]
  have d2 : ((n : Int) % 3 == 1) = true := by simp [h3]
  have hwr : IntKind.i64.wrap ((n : Int) % 100) = ((n % 100 : Nat) : Int) := by rw [IntWalk.i64_in _ (by omega)]; omega
  generalize n % 100 = m at *
  go_enter Tryz.func24, Tryz.ntmps24
  go_wp2_with fail
  refine bodyPost_ret (v := lfV (.val ⟨1, (m : Int), []⟩)) (by simp [results, Tryz.results24, go_sem, hdK, hdV, hdN, hdC, hdO, zv]) rfl ?_
  refine ⟨rfl, ?_⟩
  repeat (first | (with_reducible exact Below.refl _ _) | (with_reducible assumption) | refine Below.setCell ?_ (by simp <;> omega) _ | refine Below.alloc ?_ (by simp <;> omega) _ | refine Below.drew ?_)
 ·have e : leafX n = .val ⟨3, 0, [97]⟩ := by unfold leafX; rw [if_neg (by omega), if_neg (by omega)]
  rw [e]
  have h3 : (n : Int) % 3 = 2 := by omega
  have d : ((n : Int) % 3 == 0) = false := by simp [h3]
  have d2 : ((n : Int) % 3 == 1) = false := by simp [h3]
  go_enter Tryz.func24, Tryz.ntmps24
  go_wp2_with fail
  refine bodyPost_ret (v := lfV (.val ⟨3, 0, [97]⟩)) (by simp [results, Tryz.results24, go_sem, hdK, hdV, hdN, hdC, hdO, zv]) rfl ?_
  refine ⟨rfl, ?_⟩
  repeat (first | (with_reducible exact Below.refl _ _) | (with_reducible assumption) | refine Below.setCell ?_ (by simp <;> omega) _ | refine Below.alloc ?_ (by simp <;> omega) _ | refine Below.drew ?_)
theorem leaf_any' (n : Nat) (hn : n < 18446744073709551616) {z : Int} (hz : z = (n : Int)) (w : World) : Calls Tryz.prog 24 #[.int .u64 z] w fun e w' => e = .returned (lfV (leafX n)) ∧ Below w.heap.size w w' := by
 subst hz
 exact leaf_any n hn w
theorem leafX_at (n : Nat) (w : World) (S : Nat → Prop) : ExAt w S (leafX n) none 0 := ⟨[], by
 rw [leafX_parts]
 exact ⟨Row.nil_, rfl⟩⟩
theorem ExAt.mono {w : World} {S S' : Nat → Prop} {x : Ex} {A : Option Addr} {c : Nat} (h : ExAt w S x A c) (hs : ∀ b, S b → S' b) : ExAt w S' x A c := by
 obtain ⟨es, h1, h2⟩ := h.ex
 exact ⟨es, h1.mono hs, h2.imp fun y us => ExR.mono hs y us⟩
theorem ExAt.grow1 {W : World} {S : Nat → Prop} {x f : Ex} {A : Option Addr} {c g : Nat} {T : TypeId} {p q r : Int} (h : ExAt W S x A c) (hf : parts f = [x]) (hb : W.heap[g]? = some (.cells #[nv (hdK x), nv (hdV x).k, nv (hdV x).n, sv (hdV x).s, sv (hdN x), sv (hdC x), nv (hdO x : Nat), .slice A (parts x).length c, nv p, nv q, nv r] T (0, 0))) :
  ExAt W (fun b => S b ∨ b = g) f (some ⟨g, 0, none⟩) 1 := by
 refine ⟨exC x (.slice A (parts x).length c) p q r, ?_, ?_⟩
 ·rw [hf]
  exact Row.of_block (T := T) hb (.inr rfl) rfl (by simp) (by simp)
 ·rw [hf]
  exact ⟨_, [], by rw [List.append_nil], (h.mono fun b hb => .inl hb).r p q r, rfl⟩
theorem ExAt.grow2 {W : World} {S : Nat → Prop} {x y f : Ex} {A B : Option Addr} {c d g : Nat} {T : TypeId} {p q r p' q' r' : Int} (h : ExAt W S x A c) (k : ExAt W S y B d) (hf : parts f = [x, y])
  (hb : W.heap[g]? = some (.cells #[nv (hdK x), nv (hdV x).k, nv (hdV x).n, sv (hdV x).s, sv (hdN x), sv (hdC x), nv (hdO x : Nat), .slice A (parts x).length c, nv p, nv q, nv r, nv (hdK y), nv (hdV y).k, nv (hdV y).n, sv (hdV y).s, sv (hdN y), sv (hdC y), nv (hdO y : Nat), .slice B (parts y).length d, nv p', nv q', nv r'] T (0, 0))) :
  ExAt W (fun b => S b ∨ b = g) f (some ⟨g, 0, none⟩) 2 := by
 refine ⟨exC x (.slice A (parts x).length c) p q r ++ exC y (.slice B (parts y).length d) p' q' r', ?_, ?_⟩
 ·rw [hf]
  exact Row.of_block (T := T) hb (.inr rfl) rfl (by simp) (by simp)
 ·rw [hf]
  exact ⟨_, _, rfl, (h.mono fun b hb => .inl hb).r p q r, _, [], by rw [List.append_nil], (k.mono fun b hb => .inl hb).r p' q' r', rfl⟩
def UR (w : World) (A : Option Addr) (n c : Nat) (l : List Nat) : Prop := Rd w w.heap.size 1 A n (l.map uv) ∧ (n ≤ c ∧ c ≤ 9223372036854775807) ∧ ∀ x ∈ l, x < 18446744073709551616
def RetGr (l : List Nat) (lo : Nat) (e : Ending) (w' : World) : Prop := ∃ A' c' S, e = .returned (exX (growX l) A' c' 0 0 0) ∧ ExAt w' S (growX l) A' c' ∧ ∀ b, S b → lo ≤ b ∧ b < w'.heap.size
def set22 (w : World) (b : Nat) (v0 v1 v2 v3 v4 v5 v6 v7 v8 v9 v10 v11 v12 v13 v14 v15 v16 v17 v18 v19 v20 v21 : Value) : World :=
 ((((((((((((((((((((((w.setCell ⟨b, 0, none⟩ v0).setCell ⟨b, 1, none⟩ v1).setCell ⟨b, 2, none⟩ v2).setCell ⟨b, 3, none⟩ v3).setCell ⟨b, 4, none⟩ v4).setCell ⟨b, 5, none⟩ v5).setCell ⟨b, 6, none⟩ v6).setCell ⟨b, 7, none⟩ v7).setCell ⟨b, 8, none⟩ v8).setCell ⟨b, 9, none⟩ v9).setCell ⟨b, 10, none⟩ v10).setCell ⟨b, 11, none⟩ v11).setCell ⟨b, 12, none⟩ v12).setCell ⟨b, 13, none⟩ v13).setCell ⟨b, 14, none⟩ v14).setCell ⟨b, 15, none⟩ v15).setCell ⟨b, 16, none⟩ v16).setCell ⟨b, 17, none⟩ v17).setCell ⟨b, 18, none⟩ v18).setCell ⟨b, 19, none⟩ v19).setCell ⟨b, 20, none⟩ v20).setCell ⟨b, 21, none⟩ v21)
section
variable {w : World} {b : Nat} {v0 v1 v2 v3 v4 v5 v6 v7 v8 v9 v10 v11 v12 v13 v14 v15 v16 v17 v18 v19 v20 v21 : Value}
theorem set22_box {a0 a1 a2 a3 a4 a5 a6 a7 a8 a9 a10 a11 a12 a13 a14 a15 a16 a17 a18 a19 a20 a21 : Value} {T : TypeId} (hb : w.heap[b]? = some (.cells #[a0, a1, a2, a3, a4, a5, a6, a7, a8, a9, a10, a11, a12, a13, a14, a15, a16, a17, a18, a19, a20, a21] T (0, 0))) : (set22 w b v0 v1 v2 v3 v4 v5 v6 v7 v8 v9 v10 v11 v12 v13 v14 v15 v16 v17 v18 v19 v20 v21).heap[b]? = some (.cells #[v0, v1, v2, v3, v4, v5, v6, v7, v8, v9, v10, v11, v12, v13, v14, v15, v16, v17, v18, v19, v20, v21] T (0, 0)) := by
 have h0 := heap_set' hb v0 0 (cs' := #[v0, a1, a2, a3, a4, a5, a6, a7, a8, a9, a10, a11, a12, a13, a14, a15, a16, a17, a18, a19, a20, a21]) rfl
 have h1 := heap_set' h0 v1 1 (cs' := #[v0, v1, a2, a3, a4, a5, a6, a7, a8, a9, a10, a11, a12, a13, a14, a15, a16, a17, a18, a19, a20, a21]) rfl
 have h2 := heap_set' h1 v2 2 (cs' := #[v0, v1, v2, a3, a4, a5, a6, a7, a8, a9, a10, a11, a12, a13, a14, a15, a16, a17, a18, a19, a20, a21]) rfl
 have h3 := heap_set' h2 v3 3 (cs' := #[v0, v1, v2, v3, a4, a5, a6, a7, a8, a9, a10, a11, a12, a13, a14, a15, a16, a17, a18, a19, a20, a21]) rfl
 have h4 := heap_set' h3 v4 4 (cs' := #[v0, v1, v2, v3, v4, a5, a6, a7, a8, a9, a10, a11, a12, a13, a14, a15, a16, a17, a18, a19, a20, a21]) rfl
 have h5 := heap_set' h4 v5 5 (cs' := #[v0, v1, v2, v3, v4, v5, a6, a7, a8, a9, a10, a11, a12, a13, a14, a15, a16, a17, a18, a19, a20, a21]) rfl
 have h6 := heap_set' h5 v6 6 (cs' := #[v0, v1, v2, v3, v4, v5, v6, a7, a8, a9, a10, a11, a12, a13, a14, a15, a16, a17, a18, a19, a20, a21]) rfl
 have h7 := heap_set' h6 v7 7 (cs' := #[v0, v1, v2, v3, v4, v5, v6, v7, a8, a9, a10, a11, a12, a13, a14, a15, a16, a17, a18, a19, a20, a21]) rfl
 have h8 := heap_set' h7 v8 8 (cs' := #[v0, v1, v2, v3, v4, v5, v6, v7, v8, a9, a10, a11, a12, a13, a14, a15, a16, a17, a18, a19, a20, a21]) rfl
 have h9 := heap_set' h8 v9 9 (cs' := #[v0, v1, v2, v3, v4, v5, v6, v7, v8, v9, a10, a11, a12, a13, a14, a15, a16, a17, a18, a19, a20, a21]) rfl
 have h10 := heap_set' h9 v10 10 (cs' := #[v0, v1, v2, v3, v4, v5, v6, v7, v8, v9, v10, a11, a12, a13, a14, a15, a16, a17, a18, a19, a20, a21]) rfl
 have h11 := heap_set' h10 v11 11 (cs' := #[v0, v1, v2, v3, v4, v5, v6, v7, v8, v9, v10, v11, a12, a13, a14, a15, a16, a17, a18, a19, a20, a21]) rfl
 have h12 := heap_set' h11 v12 12 (cs' := #[v0, v1, v2, v3, v4, v5, v6, v7, v8, v9, v10, v11, v12, a13, a14, a15, a16, a17, a18, a19, a20, a21]) rfl
 have h13 := heap_set' h12 v13 13 (cs' := #[v0, v1, v2, v3, v4, v5, v6, v7, v8, v9, v10, v11, v12, v13, a14, a15, a16, a17, a18, a19, a20, a21]) rfl
 have h14 := heap_set' h13 v14 14 (cs' := #[v0, v1, v2, v3, v4, v5, v6, v7, v8, v9, v10, v11, v12, v13, v14, a15, a16, a17, a18, a19, a20, a21]) rfl
 have h15 := heap_set' h14 v15 15 (cs' := #[v0, v1, v2, v3, v4, v5, v6, v7, v8, v9, v10, v11, v12, v13, v14, v15, a16, a17, a18, a19, a20, a21]) rfl
 have h16 := heap_set' h15 v16 16 (cs' := #[v0, v1, v2, v3, v4, v5, v6, v7, v8, v9, v10, v11, v12, v13, v14, v15, v16, a17, a18, a19, a20, a21]) rfl
 have h17 := heap_set' h16 v17 17 (cs' := #[v0, v1, v2, v3, v4, v5, v6, v7, v8, v9, v10, v11, v12, v13, v14, v15, v16, v17, a18, a19, a20, a21]) rfl
 have h18 := heap_set' h17 v18 18 (cs' := #[v0, v1, v2, v3, v4, v5, v6, v7, v8, v9, v10, v11, v12, v13, v14, v15, v16, v17, v18, a19, a20, a21]) rfl
 have h19 := heap_set' h18 v19 19 (cs' := #[v0, v1, v2, v3, v4, v5, v6, v7, v8, v9, v10, v11, v12, v13, v14, v15, v16, v17, v18, v19, a20, a21]) rfl
 have h20 := heap_set' h19 v20 20 (cs' := #[v0, v1, v2, v3, v4, v5, v6, v7, v8, v9, v10, v11, v12, v13, v14, v15, v16, v17, v18, v19, v20, a21]) rfl
 have h21 := heap_set' h20 v21 21 (cs' := #[v0, v1, v2, v3, v4, v5, v6, v7, v8, v9, v10, v11, v12, v13, v14, v15, v16, v17, v18, v19, v20, v21]) rfl
 exact h21
theorem set22_mod : Mod [b] w (set22 w b v0 v1 v2 v3 v4 v5 v6 v7 v8 v9 v10 v11 v12 v13 v14 v15 v16 v17 v18 v19 v20 v21) := by
 unfold set22
 iterate 22 refine Mod.set ?_ (.inl (by simp)) _
 exact Mod.refl _ _
theorem set22_size : (set22 w b v0 v1 v2 v3 v4 v5 v6 v7 v8 v9 v10 v11 v12 v13 v14 v15 v16 v17 v18 v19 v20 v21).heap.size = w.heap.size := by
 unfold set22
 simp
theorem set22_other {k : Nat} (hk : k ≠ b) : (set22 w b v0 v1 v2 v3 v4 v5 v6 v7 v8 v9 v10 v11 v12 v13 v14 v15 v16 v17 v18 v19 v20 v21).heap[k]? = w.heap[k]? := by
 unfold set22
 iterate 22 rw [Below.heap_setCell _ _ _ _ hk]
end
structure GW (g : Nat) (wr W : World) (us cs : Array Value) (T : TypeId) : Prop where
 box : W.heap[g]? = some (.cells us 43 (0, 0))
 row : W.heap[wr.heap.size]? = some (.cells cs T (0, 0))
 other : ∀ b, b ≠ g → b < wr.heap.size → W.heap[b]? = wr.heap[b]?
 size : W.heap.size = wr.heap.size + 1
 below : ∀ lo, lo ≤ g → Below lo wr W
theorem gw_of {wr : World} {g : Nat} {z0 z1 z2 z3 z4 z5 z6 z7 z8 z9 z10 : Value} (hb : wr.heap[g]? = some (.cells #[z0, z1, z2, z3, z4, z5, z6, z7, z8, z9, z10] 43 (0, 0))) (u0 u1 u2 u3 u4 u5 u6 u7 u8 u9 u10 : Value) (cs : Array Value) (T : TypeId) :
  GW g wr ((set11 wr g u0 u1 u2 u3 u4 u5 u6 u7 u8 u9 u10).alloc (.cells cs T)) #[u0, u1, u2, u3, u4, u5, u6, u7, u8, u9, u10] cs T := by
 have hg : g < wr.heap.size := (Array.getElem?_eq_some_iff.1 hb).1
 refine ⟨alloc_old' (set11_box (vs := [z0, z1, z2, z3, z4, z5, z6, z7, z8, z9, z10]) hb rfl), alloc_at set11_size.symm, fun b hne hlt => ?_, by simp [set11_size], fun lo hlo => ?_⟩
 ·exact (one_new.block b (by rw [set11_size]; exact hlt)).trans (set11_other hne)
 ·have m := set11_mod (w := wr) (b := g) (u0 := u0) (u1 := u1) (u2 := u2) (u3 := u3) (u4 := u4) (u5 := u5) (u6 := u6) (u7 := u7) (u8 := u8) (u9 := u9) (u10 := u10)
  have hs := m.size
  exact (m.below (B := lo) (by omega) (fun x hx => by simp at hx; omega)).alloc (by omega) _
theorem gw2_of {wr : World} {g : Nat} {z0 z1 z2 z3 z4 z5 z6 z7 z8 z9 z10 : Value} (hb : wr.heap[g]? = some (.cells #[z0, z1, z2, z3, z4, z5, z6, z7, z8, z9, z10] 43 (0, 0))) (u0 u1 u2 u3 u4 u5 u6 u7 u8 u9 u10 : Value) (cs : Array Value) (T : TypeId) {wb : World} (hwb : wr.alloc (.cells cs T) = wb) :
  GW g wr (set11 wb g u0 u1 u2 u3 u4 u5 u6 u7 u8 u9 u10) #[u0, u1, u2, u3, u4, u5, u6, u7, u8, u9, u10] cs T := by
 subst hwb
 have hg : g < wr.heap.size := (Array.getElem?_eq_some_iff.1 hb).1
 have m := set11_mod (w := wr.alloc (.cells cs T)) (b := g) (u0 := u0) (u1 := u1) (u2 := u2) (u3 := u3) (u4 := u4) (u5 := u5) (u6 := u6) (u7 := u7) (u8 := u8) (u9 := u9) (u10 := u10)
 refine ⟨set11_box (vs := [z0, z1, z2, z3, z4, z5, z6, z7, z8, z9, z10]) (alloc_old' hb) rfl, (set11_other (by omega)).trans (alloc_at rfl), fun b hne hlt => ?_, by rw [set11_size]; simp, fun lo hlo => ?_⟩
 ·exact (set11_other hne).trans (one_new.block b hlt)
 ·exact ((Below.refl lo wr).alloc (by omega) _).trans (m.below (by simp; omega) (fun x hx => by simp at hx; omega))
theorem grown_any (A : Option Addr) (n c : Nat) (l : List Nat) (w : World) (h : UR w A n c l) (hn : n ≤ 9223372036854775807) :
  Calls Tryz.prog 10 #[.slice A n c] w fun e w' => RetGr l w.heap.size e w' ∧ Below w.heap.size w w' := by
 have hl : l.length = n := by have := h.1.1; simp at this; omega
 have HL := Lib.hid hl
 have HR := Lib.hid h.1
 have HC := Lib.hid h.2.1
 have HB := Lib.hid h.2.2
 clear h hl
 have hwr : IntKind.u64.wrap (n : Int) = (n : Int) := by rw [IntWalk.u64_in _ (by omega)]
 go_enter Tryz.func10, Tryz.ntmps10
 go_wp2_with fail
 refine (leaf_any n (by omega) _).mono ?_; rintro e w2 ⟨rfl, b2⟩
 have B2 := Lib.hid (bthen ((Below.refl w.heap.size w).alloc (Nat.le_refl _) _) b2)
 have Z2 : Hid (w2.heap[w.heap.size]? = some (.cells #[.int .i64 0, .int .i64 0, .int .i64 0, .string ⟨#[]⟩, .string ⟨#[]⟩, .string ⟨#[]⟩, .int .i64 0, .slice none 0 0, .int .i64 0, .int .i64 0, .int .i64 0] 43 (0, 0))) := Lib.hid (box_next (alloc_at rfl) b2)
 have hz2 : w.heap.size < w2.heap.size := (Array.getElem?_eq_some_iff.1 Z2.out).1
 clear b2
 go_wp2_with fail
 obtain ⟨g, hg⟩ : ∃ g, w2.heap.size = g := ⟨_, rfl⟩
 have BX0 : Hid ((w2.alloc (exO (hdK (leafX n)) (hdV (leafX n)).k (hdV (leafX n)).n (hdV (leafX n)).s (hdN (leafX n)) (hdC (leafX n)) (hdO (leafX n) : Nat) (.slice none 0 0) 0 0 0)).heap[g]? = some (exB (hdK (leafX n)) (hdV (leafX n)).k (hdV (leafX n)).n (hdV (leafX n)).s (hdN (leafX n)) (hdC (leafX n)) (hdO (leafX n) : Nat) (.slice none 0 0) 0 0 0)) := Lib.hid (alloc_at hg.symm)
 have BZ0 := Lib.hid (box_next Z2.out (one_new (o := exO (hdK (leafX n)) (hdV (leafX n)).k (hdV (leafX n)).n (hdV (leafX n)).s (hdN (leafX n)) (hdC (leafX n)) (hdO (leafX n) : Nat) (.slice none 0 0) 0 0 0)))
 have BW0 := Lib.hid (bthen B2.out (one_new (o := exO (hdK (leafX n)) (hdV (leafX n)).k (hdV (leafX n)).n (hdV (leafX n)).s (hdN (leafX n)) (hdC (leafX n)) (hdO (leafX n) : Nat) (.slice none 0 0) 0 0 0)))
 have hgz : w.heap.size < g := by omega
 rw [hg]
 clear hg B2 Z2 hz2
 go_loopw [13] (fun i wr => ∃ (k : Nat) (x : Ex) (A' : Option Addr) (c' : Nat) (S : Nat → Prop), k ≤ n ∧ k ≤ 8 ∧ i = .int .i64 k ∧ Hid (x = (l.take k).foldl stepX (leafX n)) ∧ Hid (wr.heap[g]? = some (exB (hdK x) (hdV x).k (hdV x).n (hdV x).s (hdN x) (hdC x) (hdO x : Nat) (.slice A' (parts x).length c') 0 0 0)) ∧ Hid (ExAt wr S x A' c') ∧ Hid (∀ b, S b → g < b ∧ b < wr.heap.size) ∧
  Hid (wr.heap[w.heap.size]? = some (.cells #[.int .i64 0, .int .i64 0, .int .i64 0, .string ⟨#[]⟩, .string ⟨#[]⟩, .string ⟨#[]⟩, .int .i64 0, .slice none 0 0, .int .i64 0, .int .i64 0, .int .i64 0] 43 (0, 0))) ∧ Hid (Below w.heap.size w wr)) (fun i _ => n - (intOf i).toNat)
 case atStart => exact ⟨0, leafX n, none, 0, fun _ => False, by omega, by omega, rfl, Lib.hid (by simp), by rw [leafX_parts]; exact BX0, Lib.hid (leafX_at n _ _), Lib.hid (fun b h => h.elim), BZ0, BW0⟩
 case round =>
  obtain ⟨k, x, A', c', S, hk, hk8, rfl, HX, BX, EX, HS, BZ, BW⟩ := hrel
  clear BX0 BZ0 BW0
  have hgw : g < wr.heap.size := (Array.getElem?_eq_some_iff.1 BX.out).1
  by_cases hlt : k < n ∧ k ≠ 8
  ·have hlk : k < l.length := by rw [HL.out]; exact hlt.1
   obtain ⟨b, off, rfl, hb, hc⟩ := HR.out.2 (by simp; omega)
   have hm := HB.out _ (List.getElem_mem hlk)
   have y0 : wr.cell? ⟨b, off + k, none⟩ = some (uv l[k]) := by
    have h1 := hc k (by simp; exact hlk)
    rw [List.getElem?_map, List.getElem?_eq_getElem hlk] at h1
    exact (BW.out.cell (p := ⟨b, off + k, none⟩) hb).trans h1
   have HN : Hid (stepX x l[k] = (l.take (k + 1)).foldl stepX (leafX n)) := Lib.hid (by rw [take_step hlk, ← HX.out])
   clear hc
   generalize l[k] = m at *
   have hki : (k : Int) < (n : Int) := by omega
   have hk8' : ((k : Int) == 8) = false := by simp; omega
   have hzw := BW.out.size
   have hbw : b < wr.heap.size := by omega
   obtain ⟨⟨⟨⟨x0, x1⟩, x2, x3⟩, ⟨x4, x5⟩, x6, x7⟩, ⟨x8, x9⟩, x10⟩ := cells11 BX.out
   obtain ⟨⟨⟨⟨xf0, xf1⟩, xf2, xf3⟩, ⟨xf4, xf5⟩, xf6, xf7⟩, ⟨xf8, xf9⟩, xf10⟩ := frozen11 BX.out
   by_cases h0 : m % 18 = 0
   ·have d0 : ((m : Int) % 18 == 0) = true := by simp; omega
    go_wp2_with fail
    obtain ⟨W, hW⟩ : ∃ W, (set11 wr g (nv 7) (nv 0) (nv 0) (sv []) (sv []) (sv []) (nv 13) (.slice (some ⟨wr.heap.size, 0, none⟩) 1 1) (nv 0) (nv 0) (nv 0)).alloc (.cells #[nv (hdK x), nv (hdV x).k, nv (hdV x).n, sv (hdV x).s, sv (hdN x), sv (hdC x), nv (hdO x : Nat), .slice A' (parts x).length c', nv 0, nv 0, nv 0] 43) = W := ⟨_, rfl⟩
    have gw : GW g wr W _ _ _ := hW ▸ gw_of BX.out _ _ _ _ _ _ _ _ _ _ _ _ _
    have hW' := hW
    unfold set11 nv sv at hW'
    first | rw [hW'] | (simp only [exC] at hW'; rw [hW'])
    clear hW'
    have hst : stepX x m = .un 13 x := by unfold stepX; rw [if_pos h0]
    have EX' : ExAt W S x A' c' := EX.out.keep fun b hB => gw.other b (by have := HS.out b hB; omega) (HS.out b hB).2
    go_roundw
    case rel =>
     refine ⟨k + 1, .un 13 x, some ⟨wr.heap.size, 0, none⟩, 1, fun b => S b ∨ b = wr.heap.size, by omega, by omega, by go_num, Lib.hid (by rw [← hst]; exact HN.out), Lib.hid gw.box, Lib.hid (EX'.grow1 rfl gw.row), Lib.hid (fun b hB => ?_), Lib.hid ((gw.other _ (by omega) (by omega)).trans BZ.out), Lib.hid (BW.out.trans (gw.below _ (by omega)))⟩
     have := gw.size
     rcases hB with hB | rfl
     ·have := HS.out b hB; omega
     ·omega
    case measure => simp [intOf]; omega
   ·have d0 : ((m : Int) % 18 == 0) = false := by simp; omega
    by_cases h1 : m % 18 = 1
    ·have d1 : ((m : Int) % 18 == 1) = true := by simp; omega
     go_wp2_with fail
     obtain ⟨W, hW⟩ : ∃ W, (set11 wr g (nv 7) (nv 0) (nv 0) (sv []) (sv []) (sv []) (nv 14) (.slice (some ⟨wr.heap.size, 0, none⟩) 1 1) (nv 0) (nv 0) (nv 0)).alloc (.cells #[nv (hdK x), nv (hdV x).k, nv (hdV x).n, sv (hdV x).s, sv (hdN x), sv (hdC x), nv (hdO x : Nat), .slice A' (parts x).length c', nv 0, nv 0, nv 0] 43) = W := ⟨_, rfl⟩
     have gw : GW g wr W _ _ _ := hW ▸ gw_of BX.out _ _ _ _ _ _ _ _ _ _ _ _ _
     have hW' := hW
     unfold set11 nv sv at hW'
     first | rw [hW'] | (simp only [exC] at hW'; rw [hW'])
     clear hW'
     have hst : stepX x m = .un 14 x := by unfold stepX; rw [if_neg h0, if_pos h1]
     have EX' : ExAt W S x A' c' := EX.out.keep fun b hB => gw.other b (by have := HS.out b hB; omega) (HS.out b hB).2
     go_roundw
     case rel =>
      refine ⟨k + 1, .un 14 x, some ⟨wr.heap.size, 0, none⟩, 1, fun b => S b ∨ b = wr.heap.size, by omega, by omega, by go_num, Lib.hid (by rw [← hst]; exact HN.out), Lib.hid gw.box, Lib.hid (EX'.grow1 rfl gw.row), Lib.hid (fun b hB => ?_), Lib.hid ((gw.other _ (by omega) (by omega)).trans BZ.out), Lib.hid (BW.out.trans (gw.below _ (by omega)))⟩
      have := gw.size
      rcases hB with hB | rfl
      ·have := HS.out b hB; omega
      ·omega
     case measure => simp [intOf]; omega
    ·have d1 : ((m : Int) % 18 == 1) = false := by simp; omega
     by_cases h2 : m % 18 = 2
     ·have d2 : ((m : Int) % 18 == 2) = true := by simp; omega
      go_wp2_with fail
      obtain ⟨W, hW⟩ : ∃ W, (set11 wr g (nv 3) (nv 0) (nv 0) (sv []) (sv [116]) (sv [99]) (nv 0) (.slice (some ⟨wr.heap.size, 0, none⟩) 1 1) (nv 0) (nv 0) (nv 0)).alloc (.cells #[nv (hdK x), nv (hdV x).k, nv (hdV x).n, sv (hdV x).s, sv (hdN x), sv (hdC x), nv (hdO x : Nat), .slice A' (parts x).length c', nv 0, nv 0, nv 0] 43) = W := ⟨_, rfl⟩
      have gw : GW g wr W _ _ _ := hW ▸ gw_of BX.out _ _ _ _ _ _ _ _ _ _ _ _ _
      have hW' := hW
      unfold set11 nv sv at hW'
      first | rw [hW'] | (simp only [exC] at hW'; rw [hW'])
      clear hW'
      have hst : stepX x m = .cell [116] [99] x := by unfold stepX; rw [if_neg h0, if_neg h1, if_pos h2]
      have EX' : ExAt W S x A' c' := EX.out.keep fun b hB => gw.other b (by have := HS.out b hB; omega) (HS.out b hB).2
      go_roundw
      case rel =>
       refine ⟨k + 1, .cell [116] [99] x, some ⟨wr.heap.size, 0, none⟩, 1, fun b => S b ∨ b = wr.heap.size, by omega, by omega, by go_num, Lib.hid (by rw [← hst]; exact HN.out), Lib.hid gw.box, Lib.hid (EX'.grow1 rfl gw.row), Lib.hid (fun b hB => ?_), Lib.hid ((gw.other _ (by omega) (by omega)).trans BZ.out), Lib.hid (BW.out.trans (gw.below _ (by omega)))⟩
       have := gw.size
       rcases hB with hB | rfl
       ·have := HS.out b hB; omega
       ·omega
      case measure => simp [intOf]; omega
     ·have d2 : ((m : Int) % 18 == 2) = false := by simp; omega
      by_cases h3 : m % 18 = 3
      ·have d3 : ((m : Int) % 18 == 3) = true := by simp; omega
       go_wp2_with fail
       obtain ⟨W, hW⟩ : ∃ W, (set11 wr g (nv 4) (nv 0) (nv 0) (sv []) (sv [116]) (sv []) (nv 0) (.slice (some ⟨wr.heap.size, 0, none⟩) 1 1) (nv 0) (nv 0) (nv 0)).alloc (.cells #[nv (hdK x), nv (hdV x).k, nv (hdV x).n, sv (hdV x).s, sv (hdN x), sv (hdC x), nv (hdO x : Nat), .slice A' (parts x).length c', nv 0, nv 0, nv 0] 43) = W := ⟨_, rfl⟩
       have gw : GW g wr W _ _ _ := hW ▸ gw_of BX.out _ _ _ _ _ _ _ _ _ _ _ _ _
       have hW' := hW
       unfold set11 nv sv at hW'
       first | rw [hW'] | (simp only [exC] at hW'; rw [hW'])
       clear hW'
       have hst : stepX x m = .has [116] x := by unfold stepX; rw [if_neg h0, if_neg h1, if_neg h2, if_pos h3]
       have EX' : ExAt W S x A' c' := EX.out.keep fun b hB => gw.other b (by have := HS.out b hB; omega) (HS.out b hB).2
       go_roundw
       case rel =>
        refine ⟨k + 1, .has [116] x, some ⟨wr.heap.size, 0, none⟩, 1, fun b => S b ∨ b = wr.heap.size, by omega, by omega, by go_num, Lib.hid (by rw [← hst]; exact HN.out), Lib.hid gw.box, Lib.hid (EX'.grow1 rfl gw.row), Lib.hid (fun b hB => ?_), Lib.hid ((gw.other _ (by omega) (by omega)).trans BZ.out), Lib.hid (BW.out.trans (gw.below _ (by omega)))⟩
        have := gw.size
        rcases hB with hB | rfl
        ·have := HS.out b hB; omega
        ·omega
       case measure => simp [intOf]; omega
      ·have d3 : ((m : Int) % 18 == 3) = false := by simp; omega
       by_cases h4 : m % 18 = 4
       ·have d4 : ((m : Int) % 18 == 4) = true := by simp; omega
        go_wp2_with fail
        refine wp_region_last (l := [_, _, _, _, _, _]) [g] (.read 0 (.read 1 (.read 2 (.call 3 (.call 4 (.read 5 .done)))))) (by kernel_rfl) (by kernel_rfl) (by kernel_rfl) (fun _ _ d _ _ h => by cases d <;> exact h) ?_
        refine pwith (fun W hW => (cells11 ((hW g (by simp)).trans BX.out))) (fun kx => ?_)
        repeat (first | (refine sreadxP rfl rfl ?_; apply Exists.intro; apply And.intro; (· (intro W hW; go_simp; try (first | with_reducible rfl | (rw [if_neg (by omega)]; try with_reducible rfl)))); simp only [Act.put, List.setIfInBounds_toArray, List.set_cons_zero, List.set_cons_succ]) | (refine pskip rfl rfl ?_; simp only [Act.put, List.setIfInBounds_toArray, List.set_cons_zero, List.set_cons_succ]))
        refine pcall rfl rfl (fun K hK => ?_)
        go_simp
        refine (leaf_any' (m / 18) (by omega) (by rw [IntWalk.u64_in _ (by omega)]; omega) _).mono ?_; rintro e wa ⟨rfl, ba⟩
        have BA : Hid (Below wr.heap.size wr wa) := Lib.hid (bthen (Below.refl wr.heap.size wr).drew ba)
        have hza := BA.out.size
        go_wp2_with fail
        refine hK.out _ _ (fun b hb => by simp at hb; rw [hb]; exact BA.out.block g hgw) ?_
        clear hK K kx ba
        try simp only [Act.put, List.setIfInBounds_toArray, List.set_cons_zero, List.set_cons_succ]
        refine pcall rfl rfl (fun K hK => ?_)
        go_simp
        refine hK.out _ _ (fun b hb => Below.heap_alloc _ _ _ (by simp at hb; omega)) ?_
        clear hK K
        try simp only [Act.put, List.setIfInBounds_toArray, List.set_cons_zero, List.set_cons_succ]
        obtain ⟨lx, hlx⟩ : ∃ z, leafX (m / 18) = z := ⟨_, rfl⟩
        have LX : Hid (leafX (m / 18) = lx) := Lib.hid hlx
        rw [hlx]
        clear hlx
        obtain ⟨wb, hwb⟩ : ∃ W, wa.alloc (.cells #[nv (hdK x), nv (hdV x).k, nv (hdV x).n, sv (hdV x).s, sv (hdN x), sv (hdC x), nv (hdO x : Nat), .slice A' (parts x).length c', nv 0, nv 0, nv 0, nv (hdK lx), nv (hdV lx).k, nv (hdV lx).n, sv (hdV lx).s, sv (hdN lx), sv (hdC lx), nv (hdO lx : Nat), .slice none 0 0, nv 0, nv 0, nv 0] 43) = W := ⟨_, rfl⟩
        rw [hwb]
        replace BX : Hid (wa.heap[g]? = some (exB (hdK x) (hdV x).k (hdV x).n (hdV x).s (hdN x) (hdC x) (hdO x : Nat) (.slice A' (parts x).length c') 0 0 0)) := Lib.hid ((BA.out.block g hgw).trans BX.out)
        have BXb : Hid (wb.heap[g]? = some (exB (hdK x) (hdV x).k (hdV x).n (hdV x).s (hdN x) (hdC x) (hdO x : Nat) (.slice A' (parts x).length c') 0 0 0)) := Lib.hid (by rw [← hwb]; exact alloc_old' BX.out)
        have HWB := Lib.hid hwb
        clear hwb x0 x1 x2 x3 x4 x5 x6 x7 x8 x9 x10 xf0 xf1 xf2 xf3 xf4 xf5 xf6 xf7 xf8 xf9 xf10
        obtain ⟨⟨⟨⟨x0, x1⟩, x2, x3⟩, ⟨x4, x5⟩, x6, x7⟩, ⟨x8, x9⟩, x10⟩ := cells11 BXb.out
        obtain ⟨⟨⟨⟨xf0, xf1⟩, xf2, xf3⟩, ⟨xf4, xf5⟩, xf6, xf7⟩, ⟨xf8, xf9⟩, xf10⟩ := frozen11 BXb.out
        repeat (first | (refine sreadxP rfl rfl ?_; apply Exists.intro; apply And.intro; (· (intro W hW; go_simp; try (first | with_reducible rfl | (rw [if_neg (by omega)]; try with_reducible rfl)))); simp only [Act.put, List.setIfInBounds_toArray, List.set_cons_zero, List.set_cons_succ]) | (refine pskip rfl rfl ?_; simp only [Act.put, List.setIfInBounds_toArray, List.set_cons_zero, List.set_cons_succ]))
        refine pdone ?_
        refine last_step rfl (fun K hK => ?_)
        go_simp
        refine hK.out _ _ ?_
        clear hK K
        obtain ⟨W, hW⟩ : ∃ W, set11 wb g (nv 5) (nv 0) (nv 0) (sv []) (sv [116]) (sv [99]) (nv 0) (.slice (some ⟨wa.heap.size, 0, none⟩) 2 2) (nv 0) (nv 0) (nv 0) = W := ⟨_, rfl⟩
        have gw : GW g wa W _ _ _ := hW ▸ gw2_of BX.out _ _ _ _ _ _ _ _ _ _ _ _ _ HWB.out
        have hW' := hW
        unfold set11 nv sv at hW'
        first | rw [hW'] | (simp only [exC] at hW'; rw [hW'])
        clear hW'
        clear x0 x1 x2 x3 x4 x5 x6 x7 x8 x9 x10 xf0 xf1 xf2 xf3 xf4 xf5 xf6 xf7 xf8 xf9 xf10
        go_wp2_with fail
        have hst : stepX x m = .sum [116] [99] x lx := by unfold stepX; rw [LX.out]; rw [if_neg h0, if_neg h1, if_neg h2, if_neg h3, if_pos h4]
        have EXa : ExAt wa S x A' c' := EX.out.keep fun b hB => BA.out.block b (HS.out b hB).2
        have EX' : ExAt W S x A' c' := EXa.keep fun b hB => gw.other b (by have := HS.out b hB; omega) (by have := HS.out b hB; omega)
        have LX' : ExAt W S lx none 0 := LX.out ▸ leafX_at _ _ _
        go_roundw
        case rel =>
         refine ⟨k + 1, .sum [116] [99] x lx, some ⟨wa.heap.size, 0, none⟩, 2, fun b => S b ∨ b = wa.heap.size, by omega, by omega, by go_num, Lib.hid (by rw [← hst]; exact HN.out), Lib.hid gw.box, Lib.hid ?_, Lib.hid (fun b hB => ?_), Lib.hid ((gw.other _ (by omega) (by omega)).trans ((BA.out.block _ (by omega)).trans BZ.out)), Lib.hid ((BW.out.trans (BA.out.mono BW.out.size)).trans (gw.below _ (by omega)))⟩
         ·have hr := gw.row
          have hp : (parts lx).length = 0 := by rw [← LX.out, leafX_parts]; rfl
          exact EX'.grow2 LX' rfl (by rw [hp]; exact hr)
         ·have := gw.size
          rcases hB with hB | rfl
          ·have := HS.out b hB; omega
          ·omega
        case measure => simp [intOf]; omega
       ·have d4 : ((m : Int) % 18 == 4) = false := by simp; omega
        by_cases h5 : m % 18 = 5
        ·have d5 : ((m : Int) % 18 == 5) = true := by simp; omega
         go_wp2_with fail
         refine wp_region_last (l := [_, _, _, _, _, _]) [g] (.read 0 (.read 1 (.read 3 (.call 2 (.call 4 (.read 5 .done)))))) (by kernel_rfl) (by kernel_rfl) (by kernel_rfl) (fun _ _ d _ _ h => by cases d <;> exact h) ?_
         refine pwith (fun W hW => (cells11 ((hW g (by simp)).trans BX.out))) (fun kx => ?_)
         repeat (first | (refine sreadxP rfl rfl ?_; apply Exists.intro; apply And.intro; (· (intro W hW; go_simp; try (first | with_reducible rfl | (rw [if_neg (by omega)]; try with_reducible rfl)))); simp only [Act.put, List.setIfInBounds_toArray, List.set_cons_zero, List.set_cons_succ]) | (refine pskip rfl rfl ?_; simp only [Act.put, List.setIfInBounds_toArray, List.set_cons_zero, List.set_cons_succ]))
         refine pcall rfl rfl (fun K hK => ?_)
         go_simp
         refine (leaf_any' (m / 18) (by omega) (by rw [IntWalk.u64_in _ (by omega)]; omega) _).mono ?_; rintro e wa ⟨rfl, ba⟩
         have BA : Hid (Below wr.heap.size wr wa) := Lib.hid (bthen (Below.refl wr.heap.size wr).drew ba)
         have hza := BA.out.size
         go_wp2_with fail
         refine hK.out _ _ (fun b hb => by simp at hb; rw [hb]; exact BA.out.block g hgw) ?_
         clear hK K kx ba
         try simp only [Act.put, List.setIfInBounds_toArray, List.set_cons_zero, List.set_cons_succ]
         refine pcall rfl rfl (fun K hK => ?_)
         go_simp
         refine hK.out _ _ (fun b hb => Below.heap_alloc _ _ _ (by simp at hb; omega)) ?_
         clear hK K
         try simp only [Act.put, List.setIfInBounds_toArray, List.set_cons_zero, List.set_cons_succ]
         obtain ⟨lx, hlx⟩ : ∃ z, leafX (m / 18) = z := ⟨_, rfl⟩
         have LX : Hid (leafX (m / 18) = lx) := Lib.hid hlx
         rw [hlx]
         clear hlx
         obtain ⟨wb, hwb⟩ : ∃ W, wa.alloc (.cells #[nv (hdK lx), nv (hdV lx).k, nv (hdV lx).n, sv (hdV lx).s, sv (hdN lx), sv (hdC lx), nv (hdO lx : Nat), .slice none 0 0, nv 0, nv 0, nv 0, nv (hdK x), nv (hdV x).k, nv (hdV x).n, sv (hdV x).s, sv (hdN x), sv (hdC x), nv (hdO x : Nat), .slice A' (parts x).length c', nv 0, nv 0, nv 0] 43) = W := ⟨_, rfl⟩
         rw [hwb]
         replace BX : Hid (wa.heap[g]? = some (exB (hdK x) (hdV x).k (hdV x).n (hdV x).s (hdN x) (hdC x) (hdO x : Nat) (.slice A' (parts x).length c') 0 0 0)) := Lib.hid ((BA.out.block g hgw).trans BX.out)
         have BXb : Hid (wb.heap[g]? = some (exB (hdK x) (hdV x).k (hdV x).n (hdV x).s (hdN x) (hdC x) (hdO x : Nat) (.slice A' (parts x).length c') 0 0 0)) := Lib.hid (by rw [← hwb]; exact alloc_old' BX.out)
         have HWB := Lib.hid hwb
         clear hwb x0 x1 x2 x3 x4 x5 x6 x7 x8 x9 x10 xf0 xf1 xf2 xf3 xf4 xf5 xf6 xf7 xf8 xf9 xf10
         obtain ⟨⟨⟨⟨x0, x1⟩, x2, x3⟩, ⟨x4, x5⟩, x6, x7⟩, ⟨x8, x9⟩, x10⟩ := cells11 BXb.out
         obtain ⟨⟨⟨⟨xf0, xf1⟩, xf2, xf3⟩, ⟨xf4, xf5⟩, xf6, xf7⟩, ⟨xf8, xf9⟩, xf10⟩ := frozen11 BXb.out
         repeat (first | (refine sreadxP rfl rfl ?_; apply Exists.intro; apply And.intro; (· (intro W hW; go_simp; try (first | with_reducible rfl | (rw [if_neg (by omega)]; try with_reducible rfl)))); simp only [Act.put, List.setIfInBounds_toArray, List.set_cons_zero, List.set_cons_succ]) | (refine pskip rfl rfl ?_; simp only [Act.put, List.setIfInBounds_toArray, List.set_cons_zero, List.set_cons_succ]))
         refine pdone ?_
         refine last_step rfl (fun K hK => ?_)
         go_simp
         refine hK.out _ _ ?_
         clear hK K
         obtain ⟨W, hW⟩ : ∃ W, set11 wb g (nv 6) (nv 0) (nv 0) (sv []) (sv [116]) (sv []) (nv 0) (.slice (some ⟨wa.heap.size, 0, none⟩) 2 2) (nv 0) (nv 0) (nv 0) = W := ⟨_, rfl⟩
         have gw : GW g wa W _ _ _ := hW ▸ gw2_of BX.out _ _ _ _ _ _ _ _ _ _ _ _ _ HWB.out
         have hW' := hW
         unfold set11 nv sv at hW'
         first | rw [hW'] | (simp only [exC] at hW'; rw [hW'])
         clear hW'
         clear x0 x1 x2 x3 x4 x5 x6 x7 x8 x9 x10 xf0 xf1 xf2 xf3 xf4 xf5 xf6 xf7 xf8 xf9 xf10
         go_wp2_with fail
         have hst : stepX x m = .cnt [116] lx x := by unfold stepX; rw [LX.out]; rw [if_neg h0, if_neg h1, if_neg h2, if_neg h3, if_neg h4, if_pos h5]
         have EXa : ExAt wa S x A' c' := EX.out.keep fun b hB => BA.out.block b (HS.out b hB).2
         have EX' : ExAt W S x A' c' := EXa.keep fun b hB => gw.other b (by have := HS.out b hB; omega) (by have := HS.out b hB; omega)
         have LX' : ExAt W S lx none 0 := LX.out ▸ leafX_at _ _ _
         go_roundw
         case rel =>
          refine ⟨k + 1, .cnt [116] lx x, some ⟨wa.heap.size, 0, none⟩, 2, fun b => S b ∨ b = wa.heap.size, by omega, by omega, by go_num, Lib.hid (by rw [← hst]; exact HN.out), Lib.hid gw.box, Lib.hid ?_, Lib.hid (fun b hB => ?_), Lib.hid ((gw.other _ (by omega) (by omega)).trans ((BA.out.block _ (by omega)).trans BZ.out)), Lib.hid ((BW.out.trans (BA.out.mono BW.out.size)).trans (gw.below _ (by omega)))⟩
          ·have hr := gw.row
           have hp : (parts lx).length = 0 := by rw [← LX.out, leafX_parts]; rfl
           exact LX'.grow2 EX' rfl (by rw [hp]; exact hr)
          ·have := gw.size
           rcases hB with hB | rfl
           ·have := HS.out b hB; omega
           ·omega
         case measure => simp [intOf]; omega
        ·have d5 : ((m : Int) % 18 == 5) = false := by simp; omega
         obtain ⟨lx, hlx⟩ : ∃ z, leafX (m / 36) = z := ⟨_, rfl⟩
         have LX : Hid (leafX (m / 36) = lx) := Lib.hid hlx
         clear hlx
         have hop : 6 ≤ m % 18 := by omega
         obtain ⟨op, hopv⟩ : ∃ op, m % 18 - 5 = op := ⟨_, rfl⟩
         have hop12 : 1 ≤ op ∧ op ≤ 12 := by omega
         go_upto_region 7 with fail
         go_cut [6] (fun u wx => ∃ (g6 gr : Nat), u = .pointer (some ⟨g6, 0, none⟩) ∧ (wr.heap.size ≤ g6 ∧ wr.heap.size ≤ gr ∧ g6 ≠ gr) ∧ Hid (wx.heap[g6]? = some (exB 8 0 0 [] [] [] (op : Nat) (.slice (some ⟨gr, 0, none⟩) 2 2) 0 0 0)) ∧
          Hid (wx.heap[gr]? = some (.cells #[nv (hdK x), nv (hdV x).k, nv (hdV x).n, sv (hdV x).s, sv (hdN x), sv (hdC x), nv (hdO x : Nat), .slice A' (parts x).length c', nv 0, nv 0, nv 0, nv (hdK lx), nv (hdV lx).k, nv (hdV lx).n, sv (hdV lx).s, sv (hdN lx), sv (hdC lx), nv (hdO lx : Nat), .slice none 0 0, nv 0, nv 0, nv 0] 43 (0, 0))) ∧ Hid (Below wr.heap.size wr wx))
         case first =>
          refine wp_region_plan [g] (.read 0 (.read 1 (.read 2 (.read 3 (.read 4 (.read 5 (.read 6 (.two 7 10 (.two 8 10 (.read 9 (.call 10 (.call 11 .done))) (.call 8 (.read 9 (.call 11 .done)))) (.call 7 (.call 8 (.read 9 (.call 11 .done)))))))))))) (by kernel_rfl) (by kernel_rfl) (fun _ _ d _ _ h => by cases d <;> exact h) ?_
          refine pwith (fun W hW => (cells11 ((hW g (by simp)).trans BX.out))) (fun kx => ?_)
          repeat (first | (refine sreadxP rfl rfl ?_; apply Exists.intro; apply And.intro; (· (intro W hW; go_simp; try (first | with_reducible rfl | (rw [if_neg (by omega)]; try with_reducible rfl)))); simp only [Act.put, List.setIfInBounds_toArray, List.set_cons_zero, List.set_cons_succ]) | (refine pskip rfl rfl ?_; simp only [Act.put, List.setIfInBounds_toArray, List.set_cons_zero, List.set_cons_succ]))
          clear kx
          obtain ⟨w0, hw0⟩ : ∃ W, wr.drew = W := ⟨_, rfl⟩
          have BB : Hid (Below wr.heap.size wr w0) := Lib.hid (by rw [← hw0]; exact (Below.refl _ _).drew)
          have hz0 : wr.heap.size ≤ w0.heap.size := by rw [← hw0]; exact Nat.le_refl _
          have htm : (m : Int).tmod 18 = ((m % 18 : Nat) : Int) := by rw [Int.tmod_eq_emod_of_nonneg (by omega)]; omega
          have hwp : IntKind.i64.wrap (IntKind.i64.wrap ((m : Int).tmod 18) - 5) = (op : Int) := by rw [htm, IntWalk.i64_in ((m % 18 : Nat) : Int) (by omega), IntWalk.i64_in _ (by omega)]; omega
          rw [hw0]
          clear hw0
          rw [hwp]
          clear hwp htm
          refine ptwo rfl rfl rfl rfl ?_ ?_
          ·intro K hK
           go_simp
           refine (leaf_any' (m / 36) (by omega) (by rw [IntWalk.u64_in _ (by omega)]; omega) _).mono ?_; rintro e wa ⟨rfl, bwa⟩
           go_wp2_with fail
           refine hK.out _ _ (fun b hb => by simp at hb; rw [hb]; exact bwa.block g (by omega)) ?_
           clear hK K
           try simp only [Act.put, List.setIfInBounds_toArray, List.set_cons_zero, List.set_cons_succ]
           rw [LX.out]
           have hzwa := bwa.size
           replace BB := Lib.hid (bthen BB.out bwa)
           refine ptwo rfl rfl rfl rfl ?_ ?_
           ·intro K hK
            go_simp
            refine hK.out _ _ (fun b hb => Below.heap_alloc _ _ _ (by simp at hb; omega)) ?_
            clear hK K
            try simp only [Act.put, List.setIfInBounds_toArray, List.set_cons_zero, List.set_cons_succ]
            obtain ⟨wb, hwwb⟩ : ∃ W, wa.alloc (.cells #[nv (hdK x), nv (hdV x).k, nv (hdV x).n, sv (hdV x).s, sv (hdN x), sv (hdC x), nv (hdO x : Nat), .slice A' (parts x).length c', nv 0, nv 0, nv 0, nv (hdK lx), nv (hdV lx).k, nv (hdV lx).n, sv (hdV lx).s, sv (hdN lx), sv (hdC lx), nv (hdO lx : Nat), .slice none 0 0, nv 0, nv 0, nv 0] 43) = W := ⟨_, rfl⟩
            have bwb : Below wa.heap.size wa wb := by rw [← hwwb]; exact one_new
            have RW : Hid (wb.heap[wa.heap.size]? = some (.cells #[nv (hdK x), nv (hdV x).k, nv (hdV x).n, sv (hdV x).s, sv (hdN x), sv (hdC x), nv (hdO x : Nat), .slice A' (parts x).length c', nv 0, nv 0, nv 0, nv (hdK lx), nv (hdV lx).k, nv (hdV lx).n, sv (hdV lx).s, sv (hdN lx), sv (hdC lx), nv (hdO lx : Nat), .slice none 0 0, nv 0, nv 0, nv 0] 43 (0, 0))) := Lib.hid (by rw [← hwwb]; exact alloc_at rfl)
            have hzwb : wa.heap.size < wb.heap.size := by rw [← hwwb]; simp
            first | rw [hwwb] | (unfold nv sv at hwwb; rw [hwwb])
            clear hwwb
            replace BB := Lib.hid (bthen BB.out bwb)
            repeat (first | (refine sreadxP rfl rfl ?_; apply Exists.intro; apply And.intro; (· (intro W hW; go_simp; try (first | with_reducible rfl | (rw [if_neg (by omega)]; try with_reducible rfl)))); simp only [Act.put, List.setIfInBounds_toArray, List.set_cons_zero, List.set_cons_succ]) | (refine pskip rfl rfl ?_; simp only [Act.put, List.setIfInBounds_toArray, List.set_cons_zero, List.set_cons_succ]))
            refine pcall rfl rfl (fun K hK => ?_)
            go_simp
            refine hK.out _ _ (fun b hb => Below.heap_alloc _ _ _ (by simp at hb; omega)) ?_
            clear hK K
            try simp only [Act.put, List.setIfInBounds_toArray, List.set_cons_zero, List.set_cons_succ]
            obtain ⟨wc, hwwc⟩ : ∃ W, wb.alloc (.cells #[Value.int .i64 0, .int .i64 0, .int .i64 0, .string ⟨#[]⟩, .string ⟨#[]⟩, .string ⟨#[]⟩, .int .i64 0, .slice none 0 0, .int .i64 0, .int .i64 0, .int .i64 0] 43) = W := ⟨_, rfl⟩
            have bwc : Below wb.heap.size wb wc := by rw [← hwwc]; exact one_new
            have AL : Hid (wc.heap[wb.heap.size]? = some (.cells #[Value.int .i64 0, .int .i64 0, .int .i64 0, .string ⟨#[]⟩, .string ⟨#[]⟩, .string ⟨#[]⟩, .int .i64 0, .slice none 0 0, .int .i64 0, .int .i64 0, .int .i64 0] 43 (0, 0))) := Lib.hid (by rw [← hwwc]; exact alloc_at rfl)
            have hzwc : wb.heap.size < wc.heap.size := by rw [← hwwc]; simp
            first | rw [hwwc] | (unfold nv sv at hwwc; rw [hwwc])
            clear hwwc
            replace BB := Lib.hid (bthen BB.out bwc)
            replace RW := Lib.hid (box_next RW.out bwc)
            obtain ⟨⟨⟨⟨z0, z1⟩, z2, z3⟩, ⟨z4, z5⟩, z6, z7⟩, ⟨z8, z9⟩, z10⟩ := cells11 AL.out
            obtain ⟨⟨⟨⟨zf0, zf1⟩, zf2, zf3⟩, ⟨zf4, zf5⟩, zf6, zf7⟩, ⟨zf8, zf9⟩, zf10⟩ := frozen11 AL.out
            repeat (first | (refine sreadxP rfl rfl ?_; apply Exists.intro; apply And.intro; (· (intro W hW; go_simp; try (first | with_reducible rfl | (rw [if_neg (by omega)]; try with_reducible rfl)))); simp only [Act.put, List.setIfInBounds_toArray, List.set_cons_zero, List.set_cons_succ]) | (refine pskip rfl rfl ?_; simp only [Act.put, List.setIfInBounds_toArray, List.set_cons_zero, List.set_cons_succ]))
            refine pcall rfl rfl (fun K hK => ?_)
            go_simp
            obtain ⟨W, hW⟩ : ∃ W, set11 wc wb.heap.size (nv 8) (nv 0) (nv 0) (sv []) (sv []) (sv []) (nv (op : Nat)) (.slice (some ⟨wa.heap.size, 0, none⟩) 2 2) (nv 0) (nv 0) (nv 0) = W := ⟨_, rfl⟩
            have hbx : W.heap[wb.heap.size]? = some (.cells #[nv 8, nv 0, nv 0, sv [], sv [], sv [], nv (op : Nat), .slice (some ⟨wa.heap.size, 0, none⟩) 2 2, nv 0, nv 0, nv 0] 43 (0, 0)) := by rw [← hW]; exact set11_box (vs := [Value.int .i64 0, .int .i64 0, .int .i64 0, .string ⟨#[]⟩, .string ⟨#[]⟩, .string ⟨#[]⟩, .int .i64 0, .slice none 0 0, .int .i64 0, .int .i64 0, .int .i64 0]) AL.out rfl
            have hot : ∀ b, b ≠ wb.heap.size → W.heap[b]? = wc.heap[b]? := fun b hb => by rw [← hW]; exact set11_other hb
            have hm : Below wr.heap.size wr W := BB.out.trans (by rw [← hW]; exact set11_mod.below (by omega) (fun x hx => by simp at hx; omega))
            have hW' := hW
            unfold set11 nv sv at hW'
            first | rw [hW'] | (simp only [exC] at hW'; rw [hW'])
            clear hW'
            refine hK.out _ _ (fun b hb => by simp at hb; rw [hb]; exact hot g (by omega)) ?_
            clear hK K
            refine pdone ?_
            go_wp2_with fail
            go_meet
            exact ⟨wb.heap.size, wa.heap.size, rfl, ⟨by omega, by omega, by omega⟩, Lib.hid hbx, Lib.hid ((hot _ (by omega)).trans RW.out), Lib.hid hm⟩
           ·intro K hK
            go_simp
            refine hK.out _ _ (fun b hb => Below.heap_alloc _ _ _ (by simp at hb; omega)) ?_
            clear hK K
            try simp only [Act.put, List.setIfInBounds_toArray, List.set_cons_zero, List.set_cons_succ]
            obtain ⟨wb, hwwb⟩ : ∃ W, wa.alloc (.cells #[Value.int .i64 0, .int .i64 0, .int .i64 0, .string ⟨#[]⟩, .string ⟨#[]⟩, .string ⟨#[]⟩, .int .i64 0, .slice none 0 0, .int .i64 0, .int .i64 0, .int .i64 0] 43) = W := ⟨_, rfl⟩
            have bwb : Below wa.heap.size wa wb := by rw [← hwwb]; exact one_new
            have AL : Hid (wb.heap[wa.heap.size]? = some (.cells #[Value.int .i64 0, .int .i64 0, .int .i64 0, .string ⟨#[]⟩, .string ⟨#[]⟩, .string ⟨#[]⟩, .int .i64 0, .slice none 0 0, .int .i64 0, .int .i64 0, .int .i64 0] 43 (0, 0))) := Lib.hid (by rw [← hwwb]; exact alloc_at rfl)
            have hzwb : wa.heap.size < wb.heap.size := by rw [← hwwb]; simp
            first | rw [hwwb] | (unfold nv sv at hwwb; rw [hwwb])
            clear hwwb
            replace BB := Lib.hid (bthen BB.out bwb)
            refine pcall rfl rfl (fun K hK => ?_)
            go_simp
            refine hK.out _ _ (fun b hb => Below.heap_alloc _ _ _ (by simp at hb; omega)) ?_
            clear hK K
            try simp only [Act.put, List.setIfInBounds_toArray, List.set_cons_zero, List.set_cons_succ]
            obtain ⟨wc, hwwc⟩ : ∃ W, wb.alloc (.cells #[nv (hdK x), nv (hdV x).k, nv (hdV x).n, sv (hdV x).s, sv (hdN x), sv (hdC x), nv (hdO x : Nat), .slice A' (parts x).length c', nv 0, nv 0, nv 0, nv (hdK lx), nv (hdV lx).k, nv (hdV lx).n, sv (hdV lx).s, sv (hdN lx), sv (hdC lx), nv (hdO lx : Nat), .slice none 0 0, nv 0, nv 0, nv 0] 43) = W := ⟨_, rfl⟩
            have bwc : Below wb.heap.size wb wc := by rw [← hwwc]; exact one_new
            have RW : Hid (wc.heap[wb.heap.size]? = some (.cells #[nv (hdK x), nv (hdV x).k, nv (hdV x).n, sv (hdV x).s, sv (hdN x), sv (hdC x), nv (hdO x : Nat), .slice A' (parts x).length c', nv 0, nv 0, nv 0, nv (hdK lx), nv (hdV lx).k, nv (hdV lx).n, sv (hdV lx).s, sv (hdN lx), sv (hdC lx), nv (hdO lx : Nat), .slice none 0 0, nv 0, nv 0, nv 0] 43 (0, 0))) := Lib.hid (by rw [← hwwc]; exact alloc_at rfl)
            have hzwc : wb.heap.size < wc.heap.size := by rw [← hwwc]; simp
            first | rw [hwwc] | (unfold nv sv at hwwc; rw [hwwc])
            clear hwwc
            replace BB := Lib.hid (bthen BB.out bwc)
            replace AL := Lib.hid (box_next AL.out bwc)
            obtain ⟨⟨⟨⟨z0, z1⟩, z2, z3⟩, ⟨z4, z5⟩, z6, z7⟩, ⟨z8, z9⟩, z10⟩ := cells11 AL.out
            obtain ⟨⟨⟨⟨zf0, zf1⟩, zf2, zf3⟩, ⟨zf4, zf5⟩, zf6, zf7⟩, ⟨zf8, zf9⟩, zf10⟩ := frozen11 AL.out
            repeat (first | (refine sreadxP rfl rfl ?_; apply Exists.intro; apply And.intro; (· (intro W hW; go_simp; try (first | with_reducible rfl | (rw [if_neg (by omega)]; try with_reducible rfl)))); simp only [Act.put, List.setIfInBounds_toArray, List.set_cons_zero, List.set_cons_succ]) | (refine pskip rfl rfl ?_; simp only [Act.put, List.setIfInBounds_toArray, List.set_cons_zero, List.set_cons_succ]))
            refine pcall rfl rfl (fun K hK => ?_)
            go_simp
            obtain ⟨W, hW⟩ : ∃ W, set11 wc wa.heap.size (nv 8) (nv 0) (nv 0) (sv []) (sv []) (sv []) (nv (op : Nat)) (.slice (some ⟨wb.heap.size, 0, none⟩) 2 2) (nv 0) (nv 0) (nv 0) = W := ⟨_, rfl⟩
            have hbx : W.heap[wa.heap.size]? = some (.cells #[nv 8, nv 0, nv 0, sv [], sv [], sv [], nv (op : Nat), .slice (some ⟨wb.heap.size, 0, none⟩) 2 2, nv 0, nv 0, nv 0] 43 (0, 0)) := by rw [← hW]; exact set11_box (vs := [Value.int .i64 0, .int .i64 0, .int .i64 0, .string ⟨#[]⟩, .string ⟨#[]⟩, .string ⟨#[]⟩, .int .i64 0, .slice none 0 0, .int .i64 0, .int .i64 0, .int .i64 0]) AL.out rfl
            have hot : ∀ b, b ≠ wa.heap.size → W.heap[b]? = wc.heap[b]? := fun b hb => by rw [← hW]; exact set11_other hb
            have hm : Below wr.heap.size wr W := BB.out.trans (by rw [← hW]; exact set11_mod.below (by omega) (fun x hx => by simp at hx; omega))
            have hW' := hW
            unfold set11 nv sv at hW'
            first | rw [hW'] | (simp only [exC] at hW'; rw [hW'])
            clear hW'
            refine hK.out _ _ (fun b hb => by simp at hb; rw [hb]; exact hot g (by omega)) ?_
            clear hK K
            refine pdone ?_
            go_wp2_with fail
            go_meet
            exact ⟨wa.heap.size, wb.heap.size, rfl, ⟨by omega, by omega, by omega⟩, Lib.hid hbx, Lib.hid ((hot _ (by omega)).trans RW.out), Lib.hid hm⟩
          ·intro K hK
           go_simp
           refine hK.out _ _ (fun b hb => Below.heap_alloc _ _ _ (by simp at hb; omega)) ?_
           clear hK K
           try simp only [Act.put, List.setIfInBounds_toArray, List.set_cons_zero, List.set_cons_succ]
           obtain ⟨wa, hwwa⟩ : ∃ W, w0.alloc (.cells #[Value.int .i64 0, .int .i64 0, .int .i64 0, .string ⟨#[]⟩, .string ⟨#[]⟩, .string ⟨#[]⟩, .int .i64 0, .slice none 0 0, .int .i64 0, .int .i64 0, .int .i64 0] 43) = W := ⟨_, rfl⟩
           have bwa : Below w0.heap.size w0 wa := by rw [← hwwa]; exact one_new
           have AL : Hid (wa.heap[w0.heap.size]? = some (.cells #[Value.int .i64 0, .int .i64 0, .int .i64 0, .string ⟨#[]⟩, .string ⟨#[]⟩, .string ⟨#[]⟩, .int .i64 0, .slice none 0 0, .int .i64 0, .int .i64 0, .int .i64 0] 43 (0, 0))) := Lib.hid (by rw [← hwwa]; exact alloc_at rfl)
           have hzwa : w0.heap.size < wa.heap.size := by rw [← hwwa]; simp
           first | rw [hwwa] | (unfold nv sv at hwwa; rw [hwwa])
           clear hwwa
           replace BB := Lib.hid (bthen BB.out bwa)
           refine pcall rfl rfl (fun K hK => ?_)
           go_simp
           refine (leaf_any' (m / 36) (by omega) (by rw [IntWalk.u64_in _ (by omega)]; omega) _).mono ?_; rintro e wb ⟨rfl, bwb⟩
           go_wp2_with fail
           refine hK.out _ _ (fun b hb => by simp at hb; rw [hb]; exact bwb.block g (by omega)) ?_
           clear hK K
           try simp only [Act.put, List.setIfInBounds_toArray, List.set_cons_zero, List.set_cons_succ]
           rw [LX.out]
           have hzwb := bwb.size
           replace BB := Lib.hid (bthen BB.out bwb)
           replace AL := Lib.hid (box_next AL.out bwb)
           refine pcall rfl rfl (fun K hK => ?_)
           go_simp
           refine hK.out _ _ (fun b hb => Below.heap_alloc _ _ _ (by simp at hb; omega)) ?_
           clear hK K
           try simp only [Act.put, List.setIfInBounds_toArray, List.set_cons_zero, List.set_cons_succ]
           obtain ⟨wc, hwwc⟩ : ∃ W, wb.alloc (.cells #[nv (hdK x), nv (hdV x).k, nv (hdV x).n, sv (hdV x).s, sv (hdN x), sv (hdC x), nv (hdO x : Nat), .slice A' (parts x).length c', nv 0, nv 0, nv 0, nv (hdK lx), nv (hdV lx).k, nv (hdV lx).n, sv (hdV lx).s, sv (hdN lx), sv (hdC lx), nv (hdO lx : Nat), .slice none 0 0, nv 0, nv 0, nv 0] 43) = W := ⟨_, rfl⟩
           have bwc : Below wb.heap.size wb wc := by rw [← hwwc]; exact one_new
           have RW : Hid (wc.heap[wb.heap.size]? = some (.cells #[nv (hdK x), nv (hdV x).k, nv (hdV x).n, sv (hdV x).s, sv (hdN x), sv (hdC x), nv (hdO x : Nat), .slice A' (parts x).length c', nv 0, nv 0, nv 0, nv (hdK lx), nv (hdV lx).k, nv (hdV lx).n, sv (hdV lx).s, sv (hdN lx), sv (hdC lx), nv (hdO lx : Nat), .slice none 0 0, nv 0, nv 0, nv 0] 43 (0, 0))) := Lib.hid (by rw [← hwwc]; exact alloc_at rfl)
           have hzwc : wb.heap.size < wc.heap.size := by rw [← hwwc]; simp
           first | rw [hwwc] | (unfold nv sv at hwwc; rw [hwwc])
           clear hwwc
           replace BB := Lib.hid (bthen BB.out bwc)
           replace AL := Lib.hid (box_next AL.out bwc)
           obtain ⟨⟨⟨⟨z0, z1⟩, z2, z3⟩, ⟨z4, z5⟩, z6, z7⟩, ⟨z8, z9⟩, z10⟩ := cells11 AL.out
           obtain ⟨⟨⟨⟨zf0, zf1⟩, zf2, zf3⟩, ⟨zf4, zf5⟩, zf6, zf7⟩, ⟨zf8, zf9⟩, zf10⟩ := frozen11 AL.out
           repeat (first | (refine sreadxP rfl rfl ?_; apply Exists.intro; apply And.intro; (· (intro W hW; go_simp; try (first | with_reducible rfl | (rw [if_neg (by omega)]; try with_reducible rfl)))); simp only [Act.put, List.setIfInBounds_toArray, List.set_cons_zero, List.set_cons_succ]) | (refine pskip rfl rfl ?_; simp only [Act.put, List.setIfInBounds_toArray, List.set_cons_zero, List.set_cons_succ]))
           refine pcall rfl rfl (fun K hK => ?_)
           go_simp
           obtain ⟨W, hW⟩ : ∃ W, set11 wc w0.heap.size (nv 8) (nv 0) (nv 0) (sv []) (sv []) (sv []) (nv (op : Nat)) (.slice (some ⟨wb.heap.size, 0, none⟩) 2 2) (nv 0) (nv 0) (nv 0) = W := ⟨_, rfl⟩
           have hbx : W.heap[w0.heap.size]? = some (.cells #[nv 8, nv 0, nv 0, sv [], sv [], sv [], nv (op : Nat), .slice (some ⟨wb.heap.size, 0, none⟩) 2 2, nv 0, nv 0, nv 0] 43 (0, 0)) := by rw [← hW]; exact set11_box (vs := [Value.int .i64 0, .int .i64 0, .int .i64 0, .string ⟨#[]⟩, .string ⟨#[]⟩, .string ⟨#[]⟩, .int .i64 0, .slice none 0 0, .int .i64 0, .int .i64 0, .int .i64 0]) AL.out rfl
           have hot : ∀ b, b ≠ w0.heap.size → W.heap[b]? = wc.heap[b]? := fun b hb => by rw [← hW]; exact set11_other hb
           have hm : Below wr.heap.size wr W := BB.out.trans (by rw [← hW]; exact set11_mod.below (by omega) (fun x hx => by simp at hx; omega))
           have hW' := hW
           unfold set11 nv sv at hW'
           first | rw [hW'] | (simp only [exC] at hW'; rw [hW'])
           clear hW'
           refine hK.out _ _ (fun b hb => by simp at hb; rw [hb]; exact hot g (by omega)) ?_
           clear hK K
           refine pdone ?_
           go_wp2_with fail
           go_meet
           exact ⟨w0.heap.size, wb.heap.size, rfl, ⟨by omega, by omega, by omega⟩, Lib.hid hbx, Lib.hid ((hot _ (by omega)).trans RW.out), Lib.hid hm⟩
         case rest =>
          obtain ⟨g6, gr, rfl, ⟨hg6, hgr, hg6r⟩, AL, RW, BB⟩ := hcut
          have hzc := BB.out.size
          have hg6z : g6 < wc.heap.size := (Array.getElem?_eq_some_iff.1 AL.out).1
          have hgrz : gr < wc.heap.size := (Array.getElem?_eq_some_iff.1 RW.out).1
          obtain ⟨⟨⟨⟨z0, z1⟩, z2, z3⟩, ⟨z4, z5⟩, z6, z7⟩, ⟨z8, z9⟩, z10⟩ := cells11 AL.out
          replace BX : Hid (wc.heap[g]? = some (exB (hdK x) (hdV x).k (hdV x).n (hdV x).s (hdN x) (hdC x) (hdO x : Nat) (.slice A' (parts x).length c') 0 0 0)) := Lib.hid ((BB.out.block g hgw).trans BX.out)
          clear x0 x1 x2 x3 x4 x5 x6 x7 x8 x9 x10 xf0 xf1 xf2 xf3 xf4 xf5 xf6 xf7 xf8 xf9 xf10
          obtain ⟨⟨⟨⟨x0, x1⟩, x2, x3⟩, ⟨x4, x5⟩, x6, x7⟩, ⟨x8, x9⟩, x10⟩ := cells11 BX.out
          obtain ⟨⟨⟨⟨xf0, xf1⟩, xf2, xf3⟩, ⟨xf4, xf5⟩, xf6, xf7⟩, ⟨xf8, xf9⟩, xf10⟩ := frozen11 BX.out
          by_cases hsw : m / 18 % 2 = 1
          ·have dsw : ((m : Int) / 18 % 2 == 1) = true := by simp; omega
           have r0 : wc.cell? ⟨gr, 0, none⟩ = some (nv (hdK x)) := by rw [Lib.cell_of_heap RW.out]; rfl
           have rf0 := Lib.frozen_of_heap RW.out 0
           have r1 : wc.cell? ⟨gr, 1, none⟩ = some (nv (hdV x).k) := by rw [Lib.cell_of_heap RW.out]; rfl
           have rf1 := Lib.frozen_of_heap RW.out 1
           have r2 : wc.cell? ⟨gr, 2, none⟩ = some (nv (hdV x).n) := by rw [Lib.cell_of_heap RW.out]; rfl
           have rf2 := Lib.frozen_of_heap RW.out 2
           have r3 : wc.cell? ⟨gr, 3, none⟩ = some (sv (hdV x).s) := by rw [Lib.cell_of_heap RW.out]; rfl
           have rf3 := Lib.frozen_of_heap RW.out 3
           have r4 : wc.cell? ⟨gr, 4, none⟩ = some (sv (hdN x)) := by rw [Lib.cell_of_heap RW.out]; rfl
           have rf4 := Lib.frozen_of_heap RW.out 4
           have r5 : wc.cell? ⟨gr, 5, none⟩ = some (sv (hdC x)) := by rw [Lib.cell_of_heap RW.out]; rfl
           have rf5 := Lib.frozen_of_heap RW.out 5
           have r6 : wc.cell? ⟨gr, 6, none⟩ = some (nv (hdO x : Nat)) := by rw [Lib.cell_of_heap RW.out]; rfl
           have rf6 := Lib.frozen_of_heap RW.out 6
           have r7 : wc.cell? ⟨gr, 7, none⟩ = some (.slice A' (parts x).length c') := by rw [Lib.cell_of_heap RW.out]; rfl
           have rf7 := Lib.frozen_of_heap RW.out 7
           have r8 : wc.cell? ⟨gr, 8, none⟩ = some (nv 0) := by rw [Lib.cell_of_heap RW.out]; rfl
           have rf8 := Lib.frozen_of_heap RW.out 8
           have r9 : wc.cell? ⟨gr, 9, none⟩ = some (nv 0) := by rw [Lib.cell_of_heap RW.out]; rfl
           have rf9 := Lib.frozen_of_heap RW.out 9
           have r10 : wc.cell? ⟨gr, 10, none⟩ = some (nv 0) := by rw [Lib.cell_of_heap RW.out]; rfl
           have rf10 := Lib.frozen_of_heap RW.out 10
           have r11 : wc.cell? ⟨gr, 11, none⟩ = some (nv (hdK lx)) := by rw [Lib.cell_of_heap RW.out]; rfl
           have rf11 := Lib.frozen_of_heap RW.out 11
           have r12 : wc.cell? ⟨gr, 12, none⟩ = some (nv (hdV lx).k) := by rw [Lib.cell_of_heap RW.out]; rfl
           have rf12 := Lib.frozen_of_heap RW.out 12
           have r13 : wc.cell? ⟨gr, 13, none⟩ = some (nv (hdV lx).n) := by rw [Lib.cell_of_heap RW.out]; rfl
           have rf13 := Lib.frozen_of_heap RW.out 13
           have r14 : wc.cell? ⟨gr, 14, none⟩ = some (sv (hdV lx).s) := by rw [Lib.cell_of_heap RW.out]; rfl
           have rf14 := Lib.frozen_of_heap RW.out 14
           have r15 : wc.cell? ⟨gr, 15, none⟩ = some (sv (hdN lx)) := by rw [Lib.cell_of_heap RW.out]; rfl
           have rf15 := Lib.frozen_of_heap RW.out 15
           have r16 : wc.cell? ⟨gr, 16, none⟩ = some (sv (hdC lx)) := by rw [Lib.cell_of_heap RW.out]; rfl
           have rf16 := Lib.frozen_of_heap RW.out 16
           have r17 : wc.cell? ⟨gr, 17, none⟩ = some (nv (hdO lx : Nat)) := by rw [Lib.cell_of_heap RW.out]; rfl
           have rf17 := Lib.frozen_of_heap RW.out 17
           have r18 : wc.cell? ⟨gr, 18, none⟩ = some (.slice none 0 0) := by rw [Lib.cell_of_heap RW.out]; rfl
           have rf18 := Lib.frozen_of_heap RW.out 18
           have r19 : wc.cell? ⟨gr, 19, none⟩ = some (nv 0) := by rw [Lib.cell_of_heap RW.out]; rfl
           have rf19 := Lib.frozen_of_heap RW.out 19
           have r20 : wc.cell? ⟨gr, 20, none⟩ = some (nv 0) := by rw [Lib.cell_of_heap RW.out]; rfl
           have rf20 := Lib.frozen_of_heap RW.out 20
           have r21 : wc.cell? ⟨gr, 21, none⟩ = some (nv 0) := by rw [Lib.cell_of_heap RW.out]; rfl
           have rf21 := Lib.frozen_of_heap RW.out 21
           go_wp2_with fail
           go_region
           obtain ⟨V, hV⟩ : ∃ V, set22 wc gr (nv (hdK lx)) (nv (hdV lx).k) (nv (hdV lx).n) (sv (hdV lx).s) (sv (hdN lx)) (sv (hdC lx)) (nv (hdO lx : Nat)) (.slice none 0 0) (nv 0) (nv 0) (nv 0) (nv (hdK x)) (nv (hdV x).k) (nv (hdV x).n) (sv (hdV x).s) (sv (hdN x)) (sv (hdC x)) (nv (hdO x : Nat)) (.slice A' (parts x).length c') (nv 0) (nv 0) (nv 0) = V := ⟨_, rfl⟩
           replace RW : Hid (V.drew.heap[gr]? = some (.cells #[nv (hdK lx), nv (hdV lx).k, nv (hdV lx).n, sv (hdV lx).s, sv (hdN lx), sv (hdC lx), nv (hdO lx : Nat), .slice none 0 0, nv 0, nv 0, nv 0, nv (hdK x), nv (hdV x).k, nv (hdV x).n, sv (hdV x).s, sv (hdN x), sv (hdC x), nv (hdO x : Nat), .slice A' (parts x).length c', nv 0, nv 0, nv 0] 43 (0, 0))) := Lib.hid (by show V.heap[gr]? = _; rw [← hV]; exact set22_box RW.out)
           have hVo : ∀ b, b ≠ gr → V.drew.heap[b]? = wc.heap[b]? := fun b hb => by show V.heap[b]? = _; rw [← hV]; exact set22_other hb
           have hVs : V.drew.heap.size = wc.heap.size := by show V.heap.size = _; rw [← hV]; exact set22_size
           have hVm : Below wr.heap.size wr V.drew := (BB.out.trans (by rw [← hV]; exact set22_mod.below (by omega) (fun x hx => by simp at hx; omega))).drew
           replace BB := Lib.hid hVm
           replace AL := Lib.hid ((hVo g6 hg6r).trans AL.out)
           replace BX := Lib.hid ((hVo g (by omega)).trans BX.out)
           have hV' := hV
           unfold set22 nv sv at hV'
           rw [hV']
           clear hV' hV
           obtain ⟨V1, hV1⟩ : ∃ V1, V.drew = V1 := ⟨_, rfl⟩
           rw [hV1] at RW BB AL BX hVs ⊢
           clear hVo hVm hV1
           clear r0 r1 r2 r3 r4 r5 r6 r7 r8 r9 r10 r11 r12 r13 r14 r15 r16 r17 r18 r19 r20 r21
           clear rf0 rf1 rf2 rf3 rf4 rf5 rf6 rf7 rf8 rf9 rf10 rf11 rf12 rf13 rf14 rf15 rf16 rf17 rf18 rf19 rf20 rf21
           clear z0 z1 z2 z3 z4 z5 z6 z7 z8 z9 z10 x0 x1 x2 x3 x4 x5 x6 x7 x8 x9 x10 xf0 xf1 xf2 xf3 xf4 xf5 xf6 xf7 xf8 xf9 xf10
           obtain ⟨⟨⟨⟨z0, z1⟩, z2, z3⟩, ⟨z4, z5⟩, z6, z7⟩, ⟨z8, z9⟩, z10⟩ := cells11 AL.out
           obtain ⟨⟨⟨⟨x0, x1⟩, x2, x3⟩, ⟨x4, x5⟩, x6, x7⟩, ⟨x8, x9⟩, x10⟩ := cells11 BX.out
           obtain ⟨⟨⟨⟨xf0, xf1⟩, xf2, xf3⟩, ⟨xf4, xf5⟩, xf6, xf7⟩, ⟨xf8, xf9⟩, xf10⟩ := frozen11 BX.out
           go_wp2_with fail
           obtain ⟨W, hW⟩ : ∃ W, set11 V1 g (nv 8) (nv 0) (nv 0) (sv []) (sv []) (sv []) (nv (op : Nat)) (.slice (some ⟨gr, 0, none⟩) 2 2) (nv 0) (nv 0) (nv 0) = W := ⟨_, rfl⟩
           have hbx : W.heap[g]? = some (exB 8 0 0 [] [] [] (op : Nat) (.slice (some ⟨gr, 0, none⟩) 2 2) 0 0 0) := by rw [← hW]; exact set11_box (vs := [_, _, _, _, _, _, _, _, _, _, _]) BX.out rfl
           have hot : ∀ b, b ≠ g → W.heap[b]? = V1.heap[b]? := fun b hb => by rw [← hW]; exact set11_other hb
           have hsz : W.heap.size = V1.heap.size := by rw [← hW]; exact set11_size
           have hzV := BB.out.size
           have hm : Below w.heap.size w W := (BW.out.trans (BB.out.mono BW.out.size)).trans (by rw [← hW]; exact set11_mod.below (by omega) (fun x hx => by simp at hx; omega))
           have hW' := hW
           unfold set11 nv sv at hW'
           first | rw [hW'] | (simp only [exC] at hW'; rw [hW'])
           clear hW'
           have hst : stepX x m = .bin op lx x := by unfold stepX; rw [if_neg h0, if_neg h1, if_neg h2, if_neg h3, if_neg h4, if_neg h5, if_pos hsw, hopv, LX.out]
           have EX' : ExAt W S x A' c' := EX.out.keep fun b hB => (hot b (by have := HS.out b hB; omega)).trans (BB.out.block b (HS.out b hB).2)
           have LX' : ExAt W S lx none 0 := LX.out ▸ leafX_at _ _ _
           have hp : (parts lx).length = 0 := by rw [← LX.out, leafX_parts]; rfl
           have hr := (hot gr (by omega)).trans RW.out
           go_roundw
           case rel =>
            refine ⟨k + 1, .bin op lx x, some ⟨gr, 0, none⟩, 2, fun b => S b ∨ b = gr, by omega, by omega, by go_num, Lib.hid (by rw [← hst]; exact HN.out), Lib.hid hbx, Lib.hid (LX'.grow2 EX' rfl (by rw [hp]; exact hr)), Lib.hid (fun b hB => ?_), Lib.hid ((hot _ (by omega)).trans ((BB.out.block _ (by omega)).trans BZ.out)), Lib.hid hm⟩
            rcases hB with hB | rfl
            ·have := HS.out b hB; omega
            ·omega
           case measure => simp [intOf]; omega
          ·have dsw : ((m : Int) / 18 % 2 == 1) = false := by simp; omega
           go_wp2_with fail
           obtain ⟨W, hW⟩ : ∃ W, set11 wc g (nv 8) (nv 0) (nv 0) (sv []) (sv []) (sv []) (nv (op : Nat)) (.slice (some ⟨gr, 0, none⟩) 2 2) (nv 0) (nv 0) (nv 0) = W := ⟨_, rfl⟩
           have hbx : W.heap[g]? = some (exB 8 0 0 [] [] [] (op : Nat) (.slice (some ⟨gr, 0, none⟩) 2 2) 0 0 0) := by rw [← hW]; exact set11_box (vs := [_, _, _, _, _, _, _, _, _, _, _]) BX.out rfl
           have hot : ∀ b, b ≠ g → W.heap[b]? = wc.heap[b]? := fun b hb => by rw [← hW]; exact set11_other hb
           have hsz : W.heap.size = wc.heap.size := by rw [← hW]; exact set11_size
           have hzV := BB.out.size
           have hm : Below w.heap.size w W := (BW.out.trans (BB.out.mono BW.out.size)).trans (by rw [← hW]; exact set11_mod.below (by omega) (fun x hx => by simp at hx; omega))
           have hW' := hW
           unfold set11 nv sv at hW'
           first | rw [hW'] | (simp only [exC] at hW'; rw [hW'])
           clear hW'
           have hst : stepX x m = .bin op x lx := by unfold stepX; rw [if_neg h0, if_neg h1, if_neg h2, if_neg h3, if_neg h4, if_neg h5, if_neg hsw, hopv, LX.out]
           have EX' : ExAt W S x A' c' := EX.out.keep fun b hB => (hot b (by have := HS.out b hB; omega)).trans (BB.out.block b (HS.out b hB).2)
           have LX' : ExAt W S lx none 0 := LX.out ▸ leafX_at _ _ _
           have hp : (parts lx).length = 0 := by rw [← LX.out, leafX_parts]; rfl
           have hr := (hot gr (by omega)).trans RW.out
           go_roundw
           case rel =>
            refine ⟨k + 1, .bin op x lx, some ⟨gr, 0, none⟩, 2, fun b => S b ∨ b = gr, by omega, by omega, by go_num, Lib.hid (by rw [← hst]; exact HN.out), Lib.hid hbx, Lib.hid (EX'.grow2 LX' rfl (by rw [hp]; exact hr)), Lib.hid (fun b hB => ?_), Lib.hid ((hot _ (by omega)).trans ((BB.out.block _ (by omega)).trans BZ.out)), Lib.hid hm⟩
            rcases hB with hB | rfl
            ·have := HS.out b hB; omega
            ·omega
           case measure => simp [intOf]; omega
  ·have hgx : x = growX l := by
    rw [HX.out]
    unfold growX
    rw [HL.out]
    by_cases hk8' : k = 8
    ·rw [hk8']
    ·rw [List.take_of_length_le (show l.length ≤ k by rw [HL.out]; omega), List.take_of_length_le (show l.length ≤ 8 by rw [HL.out]; omega)]
   have hzw := BW.out.size
   have hww : w.heap.size < wr.heap.size := (Array.getElem?_eq_some_iff.1 BZ.out).1
   obtain ⟨⟨⟨⟨x0, x1⟩, x2, x3⟩, ⟨x4, x5⟩, x6, x7⟩, ⟨x8, x9⟩, x10⟩ := cells11 BX.out
   obtain ⟨⟨⟨⟨z0, z1⟩, z2, z3⟩, ⟨z4, z5⟩, z6, z7⟩, ⟨z8, z9⟩, z10⟩ := cells11 BZ.out
   obtain ⟨⟨⟨⟨zf0, zf1⟩, zf2, zf3⟩, ⟨zf4, zf5⟩, zf6, zf7⟩, ⟨zf8, zf9⟩, zf10⟩ := frozen11 BZ.out
   have HG := Lib.hid hgx
   clear hgx HX
   by_cases hkn : k < n
   ·have hk8' : k = 8 := by omega
    subst hk8'
    have hlk : 8 < l.length := by rw [HL.out]; exact hkn
    obtain ⟨b, off, rfl, hb, hc⟩ := HR.out.2 (by simp; omega)
    have y0 : wr.cell? ⟨b, off + 8, none⟩ = some (uv l[8]) := by
     have h1 := hc 8 (by simp; exact hlk)
     rw [List.getElem?_map, List.getElem?_eq_getElem hlk] at h1
     exact (BW.out.cell (p := ⟨b, off + 8, none⟩) hb).trans h1
    clear hc
    generalize l[8] = m at *
    have hbw : b < wr.heap.size := by omega
    have hki : (8 : Int) < (n : Int) := by omega
    go_wp2_with fail
    obtain ⟨W, hW⟩ : ∃ W, set11 wr w.heap.size (nv (hdK x)) (nv (hdV x).k) (nv (hdV x).n) (sv (hdV x).s) (sv (hdN x)) (sv (hdC x)) (nv (hdO x : Nat)) (.slice A' (parts x).length c') (nv 0) (nv 0) (nv 0) = W := ⟨_, rfl⟩
    have hbx : W.heap[w.heap.size]? = some (exB (hdK x) (hdV x).k (hdV x).n (hdV x).s (hdN x) (hdC x) (hdO x : Nat) (.slice A' (parts x).length c') 0 0 0) := by rw [← hW]; exact set11_box (vs := [_, _, _, _, _, _, _, _, _, _, _]) BZ.out rfl
    have hot : ∀ b, b ≠ w.heap.size → W.heap[b]? = wr.heap[b]? := fun b hb => by rw [← hW]; exact set11_other hb
    have hsz : W.heap.size = wr.heap.size := by rw [← hW]; exact set11_size
    have hm : Below w.heap.size w W := BW.out.trans (by rw [← hW]; exact set11_mod.below (by omega) (fun x hx => by simp at hx; omega))
    have EX' : ExAt W S x A' c' := EX.out.keep fun b hB => hot b (by have := HS.out b hB; omega)
    have HF : Hid (RetGr l w.heap.size (.returned (exX x A' c' 0 0 0)) W) := Lib.hid ⟨A', c', S, by rw [HG.out], by rw [← HG.out]; exact EX', fun b hB => by have := HS.out b hB; omega⟩
    have HM := Lib.hid hm
    have hW' := hW
    unfold set11 nv sv at hW'
    first | rw [hW'] | (simp only [exC] at hW'; rw [hW'])
    clear hW'
    obtain ⟨⟨⟨⟨r0, r1⟩, r2, r3⟩, ⟨r4, r5⟩, r6, r7⟩, ⟨r8, r9⟩, r10⟩ := cells11 hbx
    refine bodyPost_ret (v := exX x A' c' 0 0 0) (by simp [results, Tryz.results10, go_sem, r0, r1, r2, r3, r4, r5, r6, r7, r8, r9, r10]) rfl ?_
    exact ⟨HF.out, HM.out⟩
   ·have hkn' : ¬ (k : Int) < (n : Int) := by omega
    go_wp2_with fail
    obtain ⟨W, hW⟩ : ∃ W, set11 wr w.heap.size (nv (hdK x)) (nv (hdV x).k) (nv (hdV x).n) (sv (hdV x).s) (sv (hdN x)) (sv (hdC x)) (nv (hdO x : Nat)) (.slice A' (parts x).length c') (nv 0) (nv 0) (nv 0) = W := ⟨_, rfl⟩
    have hbx : W.heap[w.heap.size]? = some (exB (hdK x) (hdV x).k (hdV x).n (hdV x).s (hdN x) (hdC x) (hdO x : Nat) (.slice A' (parts x).length c') 0 0 0) := by rw [← hW]; exact set11_box (vs := [_, _, _, _, _, _, _, _, _, _, _]) BZ.out rfl
    have hot : ∀ b, b ≠ w.heap.size → W.heap[b]? = wr.heap[b]? := fun b hb => by rw [← hW]; exact set11_other hb
    have hsz : W.heap.size = wr.heap.size := by rw [← hW]; exact set11_size
    have hm : Below w.heap.size w W := BW.out.trans (by rw [← hW]; exact set11_mod.below (by omega) (fun x hx => by simp at hx; omega))
    have EX' : ExAt W S x A' c' := EX.out.keep fun b hB => hot b (by have := HS.out b hB; omega)
    have HF : Hid (RetGr l w.heap.size (.returned (exX x A' c' 0 0 0)) W) := Lib.hid ⟨A', c', S, by rw [HG.out], by rw [← HG.out]; exact EX', fun b hB => by have := HS.out b hB; omega⟩
    have HM := Lib.hid hm
    have hW' := hW
    unfold set11 nv sv at hW'
    first | rw [hW'] | (simp only [exC] at hW'; rw [hW'])
    clear hW'
    obtain ⟨⟨⟨⟨r0, r1⟩, r2, r3⟩, ⟨r4, r5⟩, r6, r7⟩, ⟨r8, r9⟩, r10⟩ := cells11 hbx
    refine bodyPost_ret (v := exX x A' c' 0 0 0) (by simp [results, Tryz.results10, go_sem, r0, r1, r2, r3, r4, r5, r6, r7, r8, r9, r10]) rfl ?_
    exact ⟨HF.out, HM.out⟩
end Go.Proofs.YtnbmpfdffoidaaaGreat.Y
