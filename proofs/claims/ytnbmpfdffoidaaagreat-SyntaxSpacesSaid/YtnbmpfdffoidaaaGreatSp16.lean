/- Texts of the proof, joined: SynRb, SynRt, SynSameT. -/
import Derived.Test.YtnbmpfdffoidaaaGreatSp07
import Derived.Test.YtnbmpfdffoidaaaGreatSp15
set_option linter.unusedVariables false
set_option linter.unusedSimpArgs false
set_option maxHeartbeats 8000000
set_option maxRecDepth 100000
namespace Go.Proofs.YtnbmpfdffoidaaaGreat.Y
open Go.RowKit O V S X
abbrev zeV : Value := exVal 0 0 0 [] [] [] 0 (.slice none 0 0) 0 0 0
theorem part_zero (A : Option Addr) (n c i : Nat) {z : Int} (hz : z = i) (hi : n ≤ i) (w : World) : Calls Tryz.prog 30 #[.slice A n c, .int .i64 z] w fun e w' => e = .returned zeV ∧ Below w.heap.size w w' := by
 subst hz
 have hki : ¬ (i : Int) < (n : Int) := by omega
 go_enter Tryz.func30, Tryz.ntmps30
 go_wp2_with fail
 refine bodyPost_ret (v := zeV) (by simp [results, Tryz.results30, go_sem]) rfl ?_
 refine ⟨rfl, ?_⟩
 repeat (first | (with_reducible exact Below.refl _ _) | (with_reducible assumption) | refine Below.setCell ?_ (by simp <;> omega) _ | refine Below.alloc ?_ (by simp <;> omega) _ | refine Below.drew ?_)
theorem rzero_any (w : World) : Calls Tryz.prog 14 #[zeV, nv 0] w fun e w' => e = .returned (sv []) ∧ Below w.heap.size w w' := by
 go_enter Tryz.func14, Tryz.ntmps14
 go_wp2_with fail
 go_ret
 refine ⟨rfl, ?_⟩
 repeat (first | (with_reducible exact Below.refl _ _) | (with_reducible assumption) | refine Below.setCell ?_ (by simp <;> omega) _ | refine Below.alloc ?_ (by simp <;> omega) _ | refine Below.drew ?_)
def aTx (l : List Ex) (i : Nat) : List UInt8 := match l[i]? with
 | some x => sp (toks0 x)
 | none => []
theorem part_print (l : List Ex) (i : Nat) {z : Int} (hz : z = i) (ok : ∀ x ∈ l, okX x) (hlen : (aTx l i).length ≤ 100000000) (A : Option Addr) (c : Nat) (S : Nat → Prop) (w : World) (h : RX w S A c l) (hS : ∀ b, S b → b < w.heap.size) (hl : l.length ≤ 2) :
  Calls Tryz.prog 30 #[.slice A l.length c, .int .i64 z] w fun e w' => (∃ V, e = .returned V ∧ RunE 14 #[V, nv 0] (aTx l i) w') ∧ Below w.heap.size w w' := by
 by_cases hi : i < l.length
 ·obtain ⟨b, off, A', c', p', q', r', rfl, hb, hc, h3⟩ := h.at_ hS hi
  have e : aTx l i = sp (toks0 l[i]) := by unfold aTx; rw [List.getElem?_eq_getElem hi]
  rw [e] at hlen ⊢
  refine (part_raw b off l.length c i hz hi (by omega) _ _ _ _ _ _ _ A' _ c' p' q' r' w hb hc).mono ?_
  rintro e w' ⟨rfl, b'⟩
  refine ⟨⟨_, rfl, ?_⟩, b'⟩
  have hx := rpx_any l[i] (ok _ (List.getElem_mem hi)) 0 (by rw [toksX_no (by omega)]; exact hlen) A' c' p' q' r' S w' ⟨(RX.keep h3 fun k hk => b'.block k (hS k hk))⟩ (fun k hk => Nat.lt_of_lt_of_le (hS k hk) b'.size)
  rw [toksX_no (by omega)] at hx
  exact hx
 ·have e : aTx l i = [] := by unfold aTx; rw [List.getElem?_eq_none (by omega)]
  rw [e]
  refine (part_zero A l.length c i hz (by omega) w).mono ?_
  rintro e w' ⟨rfl, b'⟩
  exact ⟨⟨_, rfl, fun w2 _ => rzero_any w2⟩, b'⟩
theorem rnum_any (n : Int) (w : World) (h1 : -9223372036854775808 ≤ n) (h2 : n ≤ 9223372036854775807) : Calls Tryz.prog 19 #[nv n] w fun e w' => e = .returned (sv (decL n ++ [32])) ∧ Below w.heap.size w w' := by
 have hd : (decL n).length ≤ 21 := by
  unfold decL
  have := digN_len20 n.natAbs (by omega)
  split <;> simp <;> omega
 go_enter Tryz.func19, Tryz.ntmps19
 go_wp2_with fail
 refine (rdec_any n _ h1 h2).mono ?_; rintro e w2 ⟨rfl, b2⟩
 go_wp2_with (refine wpList_cat rfl rfl rfl rfl (by simp; omega) ?_)
 go_ret
 exact ⟨rfl, b2⟩
theorem toksB_list : ∀ b : Sts, toksB b = b.list.flatMap toksS
 | .nil => by rw [toksB]; rfl
 | .cons s r => by rw [toksB, Sts.list, List.flatMap_cons, toksB_list r]
theorem okB_list : ∀ {b : Sts}, okB b → ∀ x ∈ b.list, okS x
 | .nil, _, x, hx => by cases hx
 | .cons s r, h, x, hx => by
  rw [okB] at h
  rcases List.mem_cons.1 hx with rfl | hx
  ·exact h.1
  ·exact okB_list h.2 x hx
def toksL (l : List St) : List Tok := l.flatMap toksS
theorem toksL_snoc (l : List St) (x : St) : toksL (l ++ [x]) = toksL l ++ toksS x := by unfold toksL; rw [List.flatMap_append]; simp
theorem toksL_len (l : List St) (k : Nat) : (sp (toksL (l.take k))).length ≤ (sp (toksL l)).length := by
 conv => rhs; rw [← List.take_append_drop k l]
 unfold toksL
 rw [List.flatMap_append, sp_app, List.length_append]
 omega
theorem toksL_step {l : List St} {k : Nat} (h : k < l.length) : sp (toksL (l.take (k + 1))) = sp (toksL (l.take k)) ++ sp (toksS l[k]) := by
 rw [List.take_succ_eq_append_getElem h, toksL_snoc, sp_app]
def RPB (b : Sts) : Prop := okB b → (sp (toksB b)).length + 4 ≤ 100000000 → ∀ (A : Option Addr) (c : Nat) (S : Nat → Prop) (w : World), RS w S A c b → (∀ k, S k → k < w.heap.size) →
 Calls Tryz.prog 21 #[.slice A b.len c] w fun e w' => e = .returned (sv ([123, 32] ++ sp (toksB b) ++ [125, 32])) ∧ Below w.heap.size w w'
abbrev stO (x : St) (a b e : Value) (p q r : Int) : Obj := .cells #[nv (stK x), sv (stN x), sv (stT x), sv (stC x), nv (stI x), a, b, e, nv p, nv q, nv r] 52
theorem stA_ok {x : St} (h : okS x) : ∀ e ∈ stA x, okX e := by
 cases x <;> simp only [okS] at h <;> simp [stA] <;> simp_all
theorem aTx_len (x : St) (i : Nat) : (aTx (stA x) i).length ≤ (sp (toksS x)).length := by
 cases x <;> (rcases i with _ | _ | i) <;> simp [aTx, stA, toksS, sp_cons, sp_app] <;> omega
theorem stx_let (n : List UInt8) (e : Ex) : sp (toksS (.let_ n e)) = [108, 101, 116, 32] ++ n ++ [32, 61, 32] ++ sp (toks0 e) ++ [59, 32] := by
 rw [toksS]; simp [sp_cons, sp_app, sp_nil, tw, tg, w_let]
theorem stx_set (n : List UInt8) (e : Ex) : sp (toksS (.set n e)) = n ++ [32, 61, 32] ++ sp (toks0 e) ++ [59, 32] := by
 rw [toksS]; simp [sp_cons, sp_app, sp_nil, tw, tg]
theorem stx_put (t c : List UInt8) (k e : Ex) : sp (toksS (.put t c k e)) = t ++ [32, 91, 32] ++ sp (toks0 k) ++ [93, 32, 46, 32] ++ c ++ [32, 61, 32] ++ sp (toks0 e) ++ [59, 32] := by
 rw [toksS]; simp [sp_cons, sp_app, sp_nil, tw, tg]
theorem stx_del (t : List UInt8) (k : Ex) : sp (toksS (.del t k)) = [100, 101, 108, 32] ++ t ++ [32, 91, 32] ++ sp (toks0 k) ++ [93, 32, 59, 32] := by
 rw [toksS]; simp [sp_cons, sp_app, sp_nil, tw, tg, w_del]
theorem stx_roll : sp (toksS .roll) = [114, 111, 108, 108, 98, 97, 99, 107, 32, 59, 32] := by
 rw [toksS]; simp [sp_cons, sp_nil, tw, tg, w_rollback]
theorem stx_emit (e : Ex) : sp (toksS (.emit e)) = [101, 109, 105, 116, 32] ++ sp (toks0 e) ++ [59, 32] := by
 rw [toksS]; simp [sp_cons, sp_app, sp_nil, tw, tg, w_emit]
theorem aTx_0 (a : Ex) (l : List Ex) : aTx (a :: l) 0 = sp (toks0 a) := rfl
theorem aTx_1 (a b : Ex) (l : List Ex) : aTx (a :: b :: l) 1 = sp (toks0 b) := rfl
theorem aTx_10 (a : Ex) : aTx [a] 1 = [] := rfl
theorem aTx_nil (i : Nat) : aTx [] i = [] := rfl
def blk (b : Sts) : List UInt8 := [123, 32] ++ sp (toksB b) ++ [125, 32]
def elsX : Sts → List UInt8
 | .nil => []
 | b => [101, 108, 115, 101, 32] ++ blk b
theorem elsX_len (b : Sts) : (sp (toksB b)).length ≤ (elsX b).length := by
 cases b with
 | nil => simp [toksB, sp_nil]
 | cons s r => simp [elsX, blk]; omega
theorem elsX_pos {b : Sts} (h : 0 < b.len) : elsX b = [101, 108, 115, 101, 32] ++ blk b := by
 cases b with
 | nil => simp [Sts.len] at h
 | cons s r => rfl
theorem elsX_zero {b : Sts} (h : b.len = 0) : elsX b = [] := by
 cases b with
 | nil => rfl
 | cons s r => simp [Sts.len] at h
theorem blk_len (b : Sts) : (blk b).length = (sp (toksB b)).length + 4 := by simp [blk]
theorem stx_if (e : Ex) (b els : Sts) : sp (toksS (.if_ e b els)) = [105, 102, 32] ++ sp (toks0 e) ++ blk b ++ elsX els := by
 rw [toksS]; cases els <;> simp [sp_cons, sp_app, sp_nil, tw, tg, w_if, elsT, elsX, blk, w_else]
theorem stx_loop (k : Int) (n : List UInt8) (b : Sts) : sp (toksS (.loop k n b)) = [108, 111, 111, 112, 32] ++ (decL k ++ [32]) ++ n ++ [32] ++ blk b := by
 rw [toksS]; simp [sp_cons, sp_app, sp_nil, tw, tg, tn, w_loop, blk]
theorem stx_each (n t : List UInt8) (lo hi : Ex) (k : Int) (b : Sts) : sp (toksS (.each n t lo hi k b)) = [101, 97, 99, 104, 32] ++ n ++ [32, 105, 110, 32] ++ t ++ [32, 102, 114, 111, 109, 32] ++ sp (toks0 lo) ++ [116, 111, 32] ++ sp (toks0 hi) ++ [109, 97, 120, 32] ++ (decL k ++ [32]) ++ blk b := by
 rw [toksS]; simp [sp_cons, sp_app, sp_nil, tw, tg, tn, w_each, w_in, w_from, w_to, w_max, blk]
theorem RPB.run {b : Sts} (h : RPB b) (ok : okB b) (hlen : (blk b).length ≤ 100000000) {A : Option Addr} {c : Nat} {S : Nat → Prop} {w : World} (hR : RS w S A c b) (hS : ∀ k, S k → k < w.heap.size) : RunE 21 #[.slice A b.len c] (blk b) w :=
 fun w' hb => h ok (by rw [blk_len] at hlen; exact hlen) A c S w' (hR.keep fun k hk => hb.block k (hS k hk)) fun k hk => Nat.lt_of_lt_of_le (hS k hk) hb.size
theorem rpb_step (b : Sts) (ih : ∀ x ∈ b.list, RPB (stB x) ∧ RPB (stE x)) : RPB b := by
 intro ok hlen A c S w h hS
 have hcap := h.cap
 obtain ⟨n, hn⟩ : ∃ n, b.len = n := ⟨_, rfl⟩
 have HN : Hid (b.list.length = n) := Lib.hid (by rw [Sts.list_len]; exact hn)
 rw [hn] at hcap ⊢
 clear hn
 have HL : Hid ((sp (toksL b.list)).length + 4 ≤ 100000000) := Lib.hid (by rw [toksB_list] at hlen; exact hlen)
 have HIH := Lib.hid ih
 have HOK := Lib.hid (okB_list ok)
 have H1 := Lib.hid h
 have HS := Lib.hid hS
 rw [toksB_list]
 clear ih ok hlen h hS
 show Calls _ _ _ _ fun e w' => e = .returned (sv ([123, 32] ++ sp (toksL b.list) ++ [125, 32])) ∧ _
 go_enter Tryz.func21, Tryz.ntmps21
 go_wp2_with fail
 go_loopw [3, 10] (fun s i wr => ∃ k : Nat, k ≤ n ∧ i = .int .i64 k ∧ s = sv ([123, 32] ++ sp (toksL (b.list.take k))) ∧ Hid (Below w.heap.size w wr)) (fun _ i _ => n - (intOf i).toNat)
 case atStart => exact ⟨0, Nat.zero_le _, rfl, rfl, Lib.hid (Below.refl _ _)⟩
 case round =>
  obtain ⟨k, hk, rfl, rfl, HB⟩ := hrel
  have hz := HB.out.size
  have hFl := Nat.le_trans (Nat.add_le_add_right (toksL_len b.list k) 4) HL.out
  by_cases hlt : k < n
  ·have hlk : k < b.list.length := by rw [HN.out]; exact hlt
   have hki : (k : Int) < (n : Int) := by omega
   obtain ⟨b1, off, A1, c1, B1, d1, E1, f1, p1, q1, r1, ⟨rfl, hb1⟩, hc1, ga, gb, ge⟩ := (H1.out.keep (w' := wr) fun b hB => HB.out.block b (HS.out b hB)).at_ HS.out hlk
   have hsn := toksL_step hlk
   have hle := Nat.le_trans (Nat.add_le_add_right (toksL_len b.list (k + 1)) 4) HL.out
   rw [hsn, List.length_append] at hle
   have HSN := Lib.hid hsn
   have hih := Lib.hid (HIH.out _ (List.getElem_mem hlk))
   have hok := Lib.hid (HOK.out _ (List.getElem_mem hlk))
   have GA := Lib.hid ga
   have GB := Lib.hid gb
   have GE := Lib.hid ge
   have hL1 := stA_len b.list[k]
   clear hsn ga gb ge
   generalize b.list[k] = x at *
   obtain ⟨F, hF⟩ : ∃ F, [123, 32] ++ sp (toksL (b.list.take k)) = F := ⟨_, rfl⟩
   have hFl2 : F.length + (sp (toksS x)).length ≤ 100000000 := by rw [← hF]; simp; omega
   have HF := Lib.hid hF
   rw [hF]
   clear hF hFl hle
   have hbw1 : b1 < wr.heap.size := by omega
   unfold stV at hc1
   have y0 : wr.cell? ⟨b1, off + k * 11, none⟩ = some (nv (stK x)) := hc1 0 (by omega)
   have y1 : wr.cell? ⟨b1, off + k * 11 + 1, none⟩ = some (sv (stN x)) := hc1 1 (by omega)
   have y2 : wr.cell? ⟨b1, off + k * 11 + 2, none⟩ = some (sv (stT x)) := hc1 2 (by omega)
   have y3 : wr.cell? ⟨b1, off + k * 11 + 3, none⟩ = some (sv (stC x)) := hc1 3 (by omega)
   have y4 : wr.cell? ⟨b1, off + k * 11 + 4, none⟩ = some (nv (stI x)) := hc1 4 (by omega)
   have y5 : wr.cell? ⟨b1, off + k * 11 + 5, none⟩ = some (.slice A1 (stA x).length c1) := hc1 5 (by omega)
   have y6 : wr.cell? ⟨b1, off + k * 11 + 6, none⟩ = some (.slice B1 (stB x).len d1) := hc1 6 (by omega)
   have y7 : wr.cell? ⟨b1, off + k * 11 + 7, none⟩ = some (.slice E1 (stE x).len f1) := hc1 7 (by omega)
   have y8 : wr.cell? ⟨b1, off + k * 11 + 8, none⟩ = some (nv p1) := hc1 8 (by omega)
   have y9 : wr.cell? ⟨b1, off + k * 11 + 9, none⟩ = some (nv q1) := hc1 9 (by omega)
   have y10 : wr.cell? ⟨b1, off + k * 11 + 10, none⟩ = some (nv r1) := hc1 10 (by omega)
   clear hc1
   go_upto_region 5 with fail
   have BX : Hid ((wr.alloc (stO x (.slice A1 (stA x).length c1) (.slice B1 (stB x).len d1) (.slice E1 (stE x).len f1) p1 q1 r1)).heap[wr.heap.size]? = some (stO x (.slice A1 (stA x).length c1) (.slice B1 (stB x).len d1) (.slice E1 (stE x).len f1) p1 q1 r1)) := Lib.hid (alloc_at rfl)
   have FW : Hid (Below wr.heap.size wr (wr.alloc (stO x (.slice A1 (stA x).length c1) (.slice B1 (stB x).len d1) (.slice E1 (stE x).len f1) p1 q1 r1))) := Lib.hid one_new
   obtain ⟨w1, hw1⟩ : ∃ W, wr.alloc (stO x (.slice A1 (stA x).length c1) (.slice B1 (stB x).len d1) (.slice E1 (stE x).len f1) p1 q1 r1) = W := ⟨_, rfl⟩
   rw [hw1] at BX FW ⊢
   clear hw1 y0 y1 y2 y3 y4 y5 y6 y7 y8 y9 y10
   obtain ⟨⟨⟨⟨x0, x1⟩, x2, x3⟩, ⟨x4, x5⟩, x6, x7⟩, ⟨x8, x9⟩, x10⟩ := cells11 BX.out
   have hP (i : Nat) := aTx_len x i
   have HS1 : Hid (∀ b, S b → b < wr.heap.size) := Lib.hid fun b hb => Nat.lt_of_lt_of_le (HS.out b hb) hz
   go_wp2_with fail
   refine (part_print (stA x) 0 rfl (stA_ok hok.out) (by have := hP 0; omega) A1 c1 S w1 (GA.out.keep fun b hb => FW.out.block b (HS1.out b hb)) (fun b hb => Nat.lt_of_lt_of_le (HS1.out b hb) FW.out.size) hL1).mono ?_
   rintro e w2 ⟨⟨V, rfl, hV⟩, b2⟩
   have HV := Lib.hid hV
   clear hV
   replace BX := Lib.hid (box_next BX.out b2)
   replace FW := Lib.hid (bthen FW.out b2)
   clear b2 x0 x1 x2 x3 x4 x5 x6 x7 x8 x9 x10
   obtain ⟨⟨⟨⟨x0, x1⟩, x2, x3⟩, ⟨x4, x5⟩, x6, x7⟩, ⟨x8, x9⟩, x10⟩ := cells11 BX.out
   go_wp2_with fail
   refine (HV.out w2 (Below.refl _ _)).mono ?_
   rintro e w3 ⟨rfl, b3⟩
   clear HV
   replace BX := Lib.hid (box_next BX.out b3)
   replace FW := Lib.hid (bthen FW.out b3)
   clear b3 x0 x1 x2 x3 x4 x5 x6 x7 x8 x9 x10
   obtain ⟨⟨⟨⟨x0, x1⟩, x2, x3⟩, ⟨x4, x5⟩, x6, x7⟩, ⟨x8, x9⟩, x10⟩ := cells11 BX.out
   go_wp2_with fail
   refine (part_print (stA x) 1 rfl (stA_ok hok.out) (by have := hP 1; omega) A1 c1 S w3 (GA.out.keep fun b hb => FW.out.block b (HS1.out b hb)) (fun b hb => Nat.lt_of_lt_of_le (HS1.out b hb) FW.out.size) hL1).mono ?_
   rintro e w4 ⟨⟨V, rfl, hV⟩, b4⟩
   have HV := Lib.hid hV
   clear hV
   replace BX := Lib.hid (box_next BX.out b4)
   replace FW := Lib.hid (bthen FW.out b4)
   clear b4 x0 x1 x2 x3 x4 x5 x6 x7 x8 x9 x10
   obtain ⟨⟨⟨⟨x0, x1⟩, x2, x3⟩, ⟨x4, x5⟩, x6, x7⟩, ⟨x8, x9⟩, x10⟩ := cells11 BX.out
   go_wp2_with fail
   refine (HV.out w4 (Below.refl _ _)).mono ?_
   rintro e w5 ⟨rfl, b5⟩
   clear HV
   replace BX := Lib.hid (box_next BX.out b5)
   replace FW := Lib.hid (bthen FW.out b5)
   clear b5 x0 x1 x2 x3 x4 x5 x6 x7 x8 x9 x10
   obtain ⟨⟨⟨⟨x0, x1⟩, x2, x3⟩, ⟨x4, x5⟩, x6, x7⟩, ⟨x8, x9⟩, x10⟩ := cells11 BX.out
   clear hP
   cases x
   case let_ nn ee =>
    have hx := stx_let nn ee
    rw [hx] at hFl2
    simp only [List.length_append, List.length_cons, List.length_nil] at hFl2
    have HX := Lib.hid (HSN.out.trans (congrArg _ hx))
    clear hx HSN
    simp only [stO, stK, stN, stT, stC, stI, stA, stB, stE, aTx_0, aTx_1, aTx_10, aTx_nil] at *
    generalize sp (toks0 ee) = P at *
    go_wp2_with (refine wpList_cat rfl rfl rfl rfl (by simp; omega) ?_)
    go_roundw
    case rel =>
     refine ⟨k + 1, by omega, by go_num, ?_, Lib.hid (bthen HB.out FW.out)⟩
     rw [HX.out]
     refine congrArg (fun z => sv z) ?_
     rw [← List.append_assoc, ← HF.out]
     first | done | simp
    case measure => simp [intOf]; omega
   case set nn ee =>
    have hx := stx_set nn ee
    rw [hx] at hFl2
    simp only [List.length_append, List.length_cons, List.length_nil] at hFl2
    have HX := Lib.hid (HSN.out.trans (congrArg _ hx))
    clear hx HSN
    simp only [stO, stK, stN, stT, stC, stI, stA, stB, stE, aTx_0, aTx_1, aTx_10, aTx_nil] at *
    generalize sp (toks0 ee) = P at *
    go_wp2_with (refine wpList_cat rfl rfl rfl rfl (by simp; omega) ?_)
    go_roundw
    case rel =>
     refine ⟨k + 1, by omega, by go_num, ?_, Lib.hid (bthen HB.out FW.out)⟩
     rw [HX.out]
     refine congrArg (fun z => sv z) ?_
     rw [← List.append_assoc, ← HF.out]
     first | done | simp
    case measure => simp [intOf]; omega
   case put tt cc kk ee =>
    have hx := stx_put tt cc kk ee
    rw [hx] at hFl2
    simp only [List.length_append, List.length_cons, List.length_nil] at hFl2
    have HX := Lib.hid (HSN.out.trans (congrArg _ hx))
    clear hx HSN
    simp only [stO, stK, stN, stT, stC, stI, stA, stB, stE, aTx_0, aTx_1, aTx_10, aTx_nil] at *
    generalize sp (toks0 kk) = P at *
    generalize sp (toks0 ee) = P2 at *
    go_wp2_with (refine wpList_cat rfl rfl rfl rfl (by simp; omega) ?_)
    go_roundw
    case rel =>
     refine ⟨k + 1, by omega, by go_num, ?_, Lib.hid (bthen HB.out FW.out)⟩
     rw [HX.out]
     refine congrArg (fun z => sv z) ?_
     rw [← List.append_assoc, ← HF.out]
     first | done | simp
    case measure => simp [intOf]; omega
   case del tt kk =>
    have hx := stx_del tt kk
    rw [hx] at hFl2
    simp only [List.length_append, List.length_cons, List.length_nil] at hFl2
    have HX := Lib.hid (HSN.out.trans (congrArg _ hx))
    clear hx HSN
    simp only [stO, stK, stN, stT, stC, stI, stA, stB, stE, aTx_0, aTx_1, aTx_10, aTx_nil] at *
    generalize sp (toks0 kk) = P at *
    go_wp2_with (refine wpList_cat rfl rfl rfl rfl (by simp; omega) ?_)
    go_roundw
    case rel =>
     refine ⟨k + 1, by omega, by go_num, ?_, Lib.hid (bthen HB.out FW.out)⟩
     rw [HX.out]
     refine congrArg (fun z => sv z) ?_
     rw [← List.append_assoc, ← HF.out]
     first | done | simp
    case measure => simp [intOf]; omega
   case roll =>
    have hx := stx_roll
    rw [hx] at hFl2
    simp only [List.length_append, List.length_cons, List.length_nil] at hFl2
    have HX := Lib.hid (HSN.out.trans (congrArg _ hx))
    clear hx HSN
    simp only [stO, stK, stN, stT, stC, stI, stA, stB, stE, aTx_0, aTx_1, aTx_10, aTx_nil] at *
    go_wp2_with (refine wpList_cat rfl rfl rfl rfl (by simp; omega) ?_)
    go_roundw
    case rel =>
     refine ⟨k + 1, by omega, by go_num, ?_, Lib.hid (bthen HB.out FW.out)⟩
     rw [HX.out]
     refine congrArg (fun z => sv z) ?_
     rw [← List.append_assoc, ← HF.out]
     first | done | simp
    case measure => simp [intOf]; omega
   case emit ee =>
    have hx := stx_emit ee
    rw [hx] at hFl2
    simp only [List.length_append, List.length_cons, List.length_nil] at hFl2
    have HX := Lib.hid (HSN.out.trans (congrArg _ hx))
    clear hx HSN
    simp only [stO, stK, stN, stT, stC, stI, stA, stB, stE, aTx_0, aTx_1, aTx_10, aTx_nil] at *
    generalize sp (toks0 ee) = P at *
    go_wp2_with (refine wpList_cat rfl rfl rfl rfl (by simp; omega) ?_)
    go_roundw
    case rel =>
     refine ⟨k + 1, by omega, by go_num, ?_, Lib.hid (bthen HB.out FW.out)⟩
     rw [HX.out]
     refine congrArg (fun z => sv z) ?_
     rw [← List.append_assoc, ← HF.out]
     first | done | simp
    case measure => simp [intOf]; omega
   case if_ ee bb els =>
    have hx := stx_if ee bb els
    rw [hx] at hFl2
    simp only [List.length_append, List.length_cons, List.length_nil] at hFl2
    have HX := Lib.hid (HSN.out.trans (congrArg _ hx))
    clear hx HSN
    simp only [stO, stK, stN, stT, stC, stI, stA, stB, stE, aTx_0, aTx_1, aTx_10, aTx_nil] at *
    have ho := hok.out
    rw [okS] at ho
    have hez := elsX_len els
    have hbz := blk_len els
    have hbz1 := blk_len bb
    have C1 := Lib.hid (hih.out.1.run ho.2.1.1 (by omega) GB.out HS1.out)
    have C2 := Lib.hid (hih.out.2.run ho.2.2.1 (by omega) GE.out HS1.out)
    have EP := Lib.hid (elsX_pos (b := els))
    have EZ := Lib.hid (elsX_zero (b := els))
    clear ho hez hbz hbz1 hih hok GA GB GE
    generalize sp (toks0 ee) = P at *
    generalize blk bb = Q at *
    generalize blk els = Q2 at *
    generalize elsX els = Q3 at *
    generalize bb.len = mb at *
    generalize els.len = me at *
    rcases Nat.eq_zero_or_pos me with hm | hm
    ·have q3 := EZ.out hm
     subst hm q3
     clear EP EZ
     go_wp2_with (refine wpList_cat rfl rfl rfl rfl (by simp; omega) ?_)
     refine (C1.out w5 FW.out).mono ?_
     rintro e w6 ⟨rfl, b6⟩
     replace BX := Lib.hid (box_next BX.out b6)
     replace FW := Lib.hid (bthen FW.out b6)
     clear b6 x0 x1 x2 x3 x4 x5 x6 x7 x8 x9 x10
     obtain ⟨⟨⟨⟨x0, x1⟩, x2, x3⟩, ⟨x4, x5⟩, x6, x7⟩, ⟨x8, x9⟩, x10⟩ := cells11 BX.out
     go_wp2_with (refine wpList_cat rfl rfl rfl rfl (by simp; omega) ?_)
     go_roundw
     case rel =>
      refine ⟨k + 1, by omega, by go_num, ?_, Lib.hid (bthen HB.out FW.out)⟩
      rw [HX.out]
      refine congrArg (fun z => sv z) ?_
      rw [← List.append_assoc, ← HF.out]
      first | done | simp
     case measure => simp [intOf]; omega
    ·have hmi : (0 : Int) < (me : Int) := by omega
     have q3 := EP.out hm
     clear EP EZ hm
     subst q3
     simp only [List.length_append, List.length_cons, List.length_nil] at hFl2
     go_wp2_with (refine wpList_cat rfl rfl rfl rfl (by simp; omega) ?_)
     refine (C1.out w5 FW.out).mono ?_
     rintro e w6 ⟨rfl, b6⟩
     replace BX := Lib.hid (box_next BX.out b6)
     replace FW := Lib.hid (bthen FW.out b6)
     clear b6 x0 x1 x2 x3 x4 x5 x6 x7 x8 x9 x10
     obtain ⟨⟨⟨⟨x0, x1⟩, x2, x3⟩, ⟨x4, x5⟩, x6, x7⟩, ⟨x8, x9⟩, x10⟩ := cells11 BX.out
     go_wp2_with (refine wpList_cat rfl rfl rfl rfl (by simp; omega) ?_)
     refine (C2.out w6 FW.out).mono ?_
     rintro e w7 ⟨rfl, b7⟩
     replace BX := Lib.hid (box_next BX.out b7)
     replace FW := Lib.hid (bthen FW.out b7)
     clear b7 x0 x1 x2 x3 x4 x5 x6 x7 x8 x9 x10
     obtain ⟨⟨⟨⟨x0, x1⟩, x2, x3⟩, ⟨x4, x5⟩, x6, x7⟩, ⟨x8, x9⟩, x10⟩ := cells11 BX.out
     go_wp2_with (refine wpList_cat rfl rfl rfl rfl (by simp; omega) ?_)
     go_roundw
     case rel =>
      refine ⟨k + 1, by omega, by go_num, ?_, Lib.hid (bthen HB.out FW.out)⟩
      rw [HX.out]
      refine congrArg (fun z => sv z) ?_
      rw [← List.append_assoc, ← HF.out]
      first | done | simp
     case measure => simp [intOf]; omega
   case loop nn name bb =>
    have hx := stx_loop nn name bb
    rw [hx] at hFl2
    simp only [List.length_append, List.length_cons, List.length_nil] at hFl2
    have HX := Lib.hid (HSN.out.trans (congrArg _ hx))
    clear hx HSN
    simp only [stO, stK, stN, stT, stC, stI, stA, stB, stE, aTx_0, aTx_1, aTx_10, aTx_nil] at *
    have ho := hok.out
    rw [okS] at ho
    have hnb : -9223372036854775808 ≤ nn ∧ nn ≤ 9223372036854775807 := by have h := ho.1; unfold okNum at h; omega
    have RN : Hid (∀ w : World, Calls Tryz.prog 19 #[nv nn] w fun e w' => e = .returned (sv (decL nn ++ [32])) ∧ Below w.heap.size w w') := Lib.hid fun w => rnum_any nn w hnb.1 hnb.2
    have hdl : (decL nn ++ [32]).length ≤ 100000000 := by simp only [List.length_append, List.length_cons, List.length_nil]; omega
    have hnl : name.length ≤ 100000000 := by omega
    have hFl3 : F.length ≤ 100000000 := by omega
    have hql : (blk bb).length ≤ 100000000 := by omega
    have C1 := Lib.hid (hih.out.1.run (by first | exact ho.2.1 | exact ho.2.2.1 | exact ho.2.2.2.1 | exact ho.2.2.2.2.1) (by omega) GB.out HS1.out)
    clear hnb hih hok GA GB GE
    generalize decL nn ++ [32] = D at *
    generalize blk bb = Q at *
    generalize bb.len = mb at *
    go_wp2_with fail
    have BD : Below w5.heap.size w5 w5.drew := (Below.refl _ _).drew
    refine wp_region_sched [(0, true), (1, true), (2, true), (5, true), (6, true), (9, true), (10, true), (3, false), (4, true), (7, true), (8, true), (11, false), (12, true), (13, true), (14, true)] (by kernel_rfl) (by kernel_rfl) (fun _ _ d _ _ h => by cases d <;> exact h) ?_
    refine swith (fun W hW => (cells11 (box_next BX.out ((Below.refl _ _).drew.trans hW.out)))) (fun qx => ?_)
    repeat (first | (refine sreadx rfl rfl ?_; apply Exists.intro; apply And.intro; (· (intro W hW; go_simp; try (first | with_reducible rfl | (rw [if_neg (by omega)]; try with_reducible rfl)))); simp only [Act.put, List.setIfInBounds_toArray, List.set_cons_zero, List.set_cons_succ]) | (refine sskip rfl rfl ?_; simp only [Act.put, List.setIfInBounds_toArray, List.set_cons_zero, List.set_cons_succ]))
    refine scall rfl rfl (fun K hK => ?_)
    go_simp
    refine (RN.out _).mono ?_; rintro e w6 ⟨rfl, b6⟩
    go_wp2_with fail
    refine hK.out _ _ (by exact b6) ?_
    clear hK K
    try simp only [Act.put, List.setIfInBounds_toArray, List.set_cons_zero, List.set_cons_succ]
    replace qx := fun (W : World) (hW : Grow w6 W) => qx W (Grow.trans (b6) hW)
    have B6 := bthen BD b6
    repeat (first | (refine sreadx rfl rfl ?_; apply Exists.intro; apply And.intro; (· (intro W hW; go_simp; try (first | with_reducible rfl | (rw [if_neg (by omega)]; try with_reducible rfl)))); simp only [Act.put, List.setIfInBounds_toArray, List.set_cons_zero, List.set_cons_succ]) | (refine sskip rfl rfl ?_; simp only [Act.put, List.setIfInBounds_toArray, List.set_cons_zero, List.set_cons_succ]))
    refine scall rfl rfl (fun K hK => ?_)
    go_simp
    refine (C1.out _ (bthen FW.out B6)).mono ?_; rintro e w7 ⟨rfl, b7⟩
    go_wp2_with fail
    refine hK.out _ _ (by exact b7) ?_
    clear hK K
    try simp only [Act.put, List.setIfInBounds_toArray, List.set_cons_zero, List.set_cons_succ]
    replace qx := fun (W : World) (hW : Grow w7 W) => qx W (Grow.trans (b7) hW)
    have B7 := bthen B6 b7
    repeat (first | (refine sreadx rfl rfl ?_; apply Exists.intro; apply And.intro; (· (intro W hW; go_simp; try (first | with_reducible rfl | (rw [if_neg (by omega)]; try with_reducible rfl)))); simp only [Act.put, List.setIfInBounds_toArray, List.set_cons_zero, List.set_cons_succ]) | (refine sskip rfl rfl ?_; simp only [Act.put, List.setIfInBounds_toArray, List.set_cons_zero, List.set_cons_succ]))
    refine sdone ?_
    go_wp2_with fail
    go_roundw
    case rel =>
     refine ⟨k + 1, by omega, by go_num, ?_, Lib.hid (bthen HB.out (bthen FW.out B7))⟩
     rw [HX.out, ← List.append_assoc, HF.out]
     refine congrArg Value.string ?_
     simp only [ba_append]
     first | done | rfl | simp
    case measure => simp [intOf]; omega
   case each nn tt lo hi kk bb =>
    have hx := stx_each nn tt lo hi kk bb
    rw [hx] at hFl2
    simp only [List.length_append, List.length_cons, List.length_nil] at hFl2
    have HX := Lib.hid (HSN.out.trans (congrArg _ hx))
    clear hx HSN
    simp only [stO, stK, stN, stT, stC, stI, stA, stB, stE, aTx_0, aTx_1, aTx_10, aTx_nil] at *
    have ho := hok.out
    rw [okS] at ho
    have hnb : -9223372036854775808 ≤ kk ∧ kk ≤ 9223372036854775807 := by have h := ho.2.2.1; unfold okNum at h; omega
    have RN : Hid (∀ w : World, Calls Tryz.prog 19 #[nv kk] w fun e w' => e = .returned (sv (decL kk ++ [32])) ∧ Below w.heap.size w w') := Lib.hid fun w => rnum_any kk w hnb.1 hnb.2
    have hdl : (decL kk ++ [32]).length ≤ 100000000 := by simp only [List.length_append, List.length_cons, List.length_nil]; omega
    have hnl : nn.length ≤ 100000000 := by omega
    have htl : tt.length ≤ 100000000 := by omega
    have hFl3 : F.length ≤ 100000000 := by omega
    have hql : (blk bb).length ≤ 100000000 := by omega
    have hal : (sp (toks0 lo)).length ≤ 100000000 := by omega
    have hbl : (sp (toks0 hi)).length ≤ 100000000 := by omega
    have C1 := Lib.hid (hih.out.1.run ho.2.2.2.1 (by omega) GB.out HS1.out)
    clear hnb hih hok GA GB GE
    generalize decL kk ++ [32] = D at *
    generalize blk bb = Q at *
    generalize bb.len = mb at *
    generalize sp (toks0 lo) = P at *
    generalize sp (toks0 hi) = P2 at *
    go_wp2_with fail
    have BD : Below w5.heap.size w5 w5.drew := (Below.refl _ _).drew
    refine wp_region_sched [(0, true), (1, true), (2, true), (3, true), (4, true), (5, true), (6, true), (7, true), (8, true), (9, true), (10, true), (11, true), (12, true), (13, true), (14, true), (15, true), (16, true), (19, true), (20, true), (17, false), (18, true), (21, false), (22, true), (23, true), (24, true)] (by kernel_rfl) (by kernel_rfl) (fun _ _ d _ _ h => by cases d <;> exact h) ?_
    refine swith (fun W hW => (cells11 (box_next BX.out ((Below.refl _ _).drew.trans hW.out)))) (fun qx => ?_)
    repeat (first | (refine sreadx rfl rfl ?_; apply Exists.intro; apply And.intro; (· (intro W hW; go_simp; try (first | with_reducible rfl | (rw [if_neg (by omega)]; try with_reducible rfl)))); simp only [Act.put, List.setIfInBounds_toArray, List.set_cons_zero, List.set_cons_succ]) | (refine sskip rfl rfl ?_; simp only [Act.put, List.setIfInBounds_toArray, List.set_cons_zero, List.set_cons_succ]))
    refine scall rfl rfl (fun K hK => ?_)
    go_simp
    refine (RN.out _).mono ?_; rintro e w6 ⟨rfl, b6⟩
    go_wp2_with fail
    refine hK.out _ _ (by exact b6) ?_
    clear hK K
    try simp only [Act.put, List.setIfInBounds_toArray, List.set_cons_zero, List.set_cons_succ]
    replace qx := fun (W : World) (hW : Grow w6 W) => qx W (Grow.trans (b6) hW)
    have B6 := bthen BD b6
    repeat (first | (refine sreadx rfl rfl ?_; apply Exists.intro; apply And.intro; (· (intro W hW; go_simp; try (first | with_reducible rfl | (rw [if_neg (by omega)]; try with_reducible rfl)))); simp only [Act.put, List.setIfInBounds_toArray, List.set_cons_zero, List.set_cons_succ]) | (refine sskip rfl rfl ?_; simp only [Act.put, List.setIfInBounds_toArray, List.set_cons_zero, List.set_cons_succ]))
    refine scall rfl rfl (fun K hK => ?_)
    go_simp
    refine (C1.out _ (bthen FW.out B6)).mono ?_; rintro e w7 ⟨rfl, b7⟩
    go_wp2_with fail
    refine hK.out _ _ (by exact b7) ?_
    clear hK K
    try simp only [Act.put, List.setIfInBounds_toArray, List.set_cons_zero, List.set_cons_succ]
    replace qx := fun (W : World) (hW : Grow w7 W) => qx W (Grow.trans (b7) hW)
    have B7 := bthen B6 b7
    repeat (first | (refine sreadx rfl rfl ?_; apply Exists.intro; apply And.intro; (· (intro W hW; go_simp; try (first | with_reducible rfl | (rw [if_neg (by omega)]; try with_reducible rfl)))); simp only [Act.put, List.setIfInBounds_toArray, List.set_cons_zero, List.set_cons_succ]) | (refine sskip rfl rfl ?_; simp only [Act.put, List.setIfInBounds_toArray, List.set_cons_zero, List.set_cons_succ]))
    refine sdone ?_
    go_wp2_with fail
    go_roundw
    case rel =>
     refine ⟨k + 1, by omega, by go_num, ?_, Lib.hid (bthen HB.out (bthen FW.out B7))⟩
     rw [HX.out, ← List.append_assoc, HF.out]
     refine congrArg Value.string ?_
     simp only [ba_append]
     first | done | rfl | simp
    case measure => simp [intOf]; omega
  ·have hkn : k = n := by omega
   have e : b.list.take k = b.list := by rw [List.take_of_length_le (by rw [HN.out]; omega)]
   rw [e]
   have hki : ¬ (k : Int) < (n : Int) := by omega
   have hT := HL.out
   obtain ⟨F, hF⟩ : ∃ F, [123, 32] ++ sp (toksL b.list) = F := ⟨_, rfl⟩
   rw [hF]
   have hFl : F.length ≤ 100000000 := by rw [← hF]; simp; omega
   have HF := Lib.hid hF
   clear hF hT
   go_wp2_with (refine wpList_cat rfl rfl rfl rfl (by simp; omega) ?_)
   go_ret
   refine ⟨?_, HB.out⟩
   show Ending.returned (sv (F ++ [125, 32])) = _
   rw [← HF.out]
   first | done | simp
theorem rpb_any : ∀ b : Sts, RPB b :=
 fun b => (Sts.indM (P := fun s => RPB (stB s) ∧ RPB (stE s)) (Q := fun b => RPB b ∧ ∀ x ∈ b.list, RPB (stB x) ∧ RPB (stE x)) (fun s h1 h2 => ⟨h1.1, h2.1⟩)
  ⟨rpb_step .nil (fun x hx => by cases hx), fun x hx => by cases hx⟩
  (fun s r hs hr => by
   have : ∀ x ∈ (Sts.cons s r).list, RPB (stB x) ∧ RPB (stE x) := fun x hx => by
    rw [Sts.list] at hx
    rcases List.mem_cons.1 hx with rfl | hx
    ·exact hs
    ·exact hr.2 x hx
   exact ⟨rpb_step _ this, this⟩) b).1
end Go.Proofs.YtnbmpfdffoidaaaGreat.Y
namespace Go.Proofs.YtnbmpfdffoidaaaGreat.Y
open Go.RowKit O V S X
def tyTx (k m : Int) : List UInt8 := if k = 1 then w_int else if k = 2 then w_bool else w_text ++ 32 :: decL m
theorem sp_T (k m : Int) : sp (toksT k m) = tyTx k m ++ [32] := by
 unfold toksT tyTx
 split
 ·simp [sp_cons, sp_nil, tw]
 ·split <;> simp [sp_cons, sp_nil, tw, tn]
abbrev TyOk (k m : Int) : Prop := (k = 1 ∧ m = 0) ∨ (k = 2 ∧ m = 0) ∨ (k = 3 ∧ 1 ≤ m ∧ m ≤ 32)
theorem dec_len32 {m : Int} (h : 1 ≤ m ∧ m ≤ 32) : (decL m).length ≤ 21 := by
 unfold decL
 have := digN_len20 m.natAbs (by omega)
 rw [if_neg (by omega)]
 omega
theorem tyTx_len {k m : Int} (h : TyOk k m) : (tyTx k m).length ≤ 26 := by
 unfold tyTx
 rcases h with ⟨rfl, rfl⟩ | ⟨rfl, rfl⟩ | ⟨rfl, h⟩
 ·decide
 ·decide
 ·have := dec_len32 h
  rw [if_neg (by omega), if_neg (by omega)]
  simp [w_text]; omega
theorem right_any (k m : Int) (h : TyOk k m) (w : World) : Calls Tryz.prog 42 #[.agg #[nv k, nv m]] w fun e w' => e = .returned (.bool true) ∧ Below w.heap.size w w' := by
 rcases h with ⟨rfl, rfl⟩ | ⟨rfl, rfl⟩ | ⟨rfl, h1, h2⟩
 ·go_enter Tryz.func42, Tryz.ntmps42
  go_wp2_with fail
  go_ret
  refine ⟨rfl, ?_⟩
  repeat (first | (with_reducible exact Below.refl _ _) | (with_reducible assumption) | refine Below.setCell ?_ (by simp <;> omega) _ | refine Below.alloc ?_ (by simp <;> omega) _ | refine Below.drew ?_)
 ·go_enter Tryz.func42, Tryz.ntmps42
  go_wp2_with fail
  go_ret
  refine ⟨rfl, ?_⟩
  repeat (first | (with_reducible exact Below.refl _ _) | (with_reducible assumption) | refine Below.setCell ?_ (by simp <;> omega) _ | refine Below.alloc ?_ (by simp <;> omega) _ | refine Below.drew ?_)
 ·have d1 : (0 : Int) < m := by omega
  have d2 : m < 33 := by omega
  go_enter Tryz.func42, Tryz.ntmps42
  go_wp2_with fail
  go_ret
  refine ⟨rfl, ?_⟩
  repeat (first | (with_reducible exact Below.refl _ _) | (with_reducible assumption) | refine Below.setCell ?_ (by simp <;> omega) _ | refine Below.alloc ?_ (by simp <;> omega) _ | refine Below.drew ?_)
theorem rtype_any (k m : Int) (h : TyOk k m) (w : World) : Calls Tryz.prog 20 #[.agg #[nv k, nv m]] w fun e w' => e = .returned (sv (tyTx k m)) ∧ Below w.heap.size w w' := by
 have hR := fun w => right_any k m h w
 have HR := Lib.hid hR
 clear hR
 rcases h with ⟨rfl, rfl⟩ | ⟨rfl, rfl⟩ | ⟨rfl, h⟩
 ·go_enter Tryz.func20, Tryz.ntmps20
  go_wp2_with fail
  refine (HR.out _).mono ?_; rintro e w2 ⟨rfl, b2⟩
  have x0 := (b2.cell (p := ⟨w.heap.size, 0, none⟩) (by simp)).trans (by rw [Lib.cell_of_heap (alloc_at rfl)]; rfl : _ = some (nv 1))
  go_wp2_with fail
  go_ret
  exact ⟨rfl, bthen ((Below.refl _ _).alloc (Nat.le_refl _) _) b2⟩
 ·go_enter Tryz.func20, Tryz.ntmps20
  go_wp2_with fail
  refine (HR.out _).mono ?_; rintro e w2 ⟨rfl, b2⟩
  have x0 := (b2.cell (p := ⟨w.heap.size, 0, none⟩) (by simp)).trans (by rw [Lib.cell_of_heap (alloc_at rfl)]; rfl : _ = some (nv 2))
  go_wp2_with fail
  go_ret
  exact ⟨rfl, bthen ((Below.refl _ _).alloc (Nat.le_refl _) _) b2⟩
 ·have hd := dec_len32 h
  go_enter Tryz.func20, Tryz.ntmps20
  go_wp2_with fail
  refine (HR.out _).mono ?_; rintro e w2 ⟨rfl, b2⟩
  have x0 := (b2.cell (p := ⟨w.heap.size, 0, none⟩) (by simp)).trans (by rw [Lib.cell_of_heap (alloc_at rfl)]; rfl : _ = some (nv 3))
  have x1 := (b2.cell (p := ⟨w.heap.size, 1, none⟩) (by simp)).trans (by rw [Lib.cell_of_heap (alloc_at rfl)]; rfl : _ = some (nv m))
  go_wp2_with fail
  refine (rdec_any m _ (by omega) (by omega)).mono ?_; rintro e w3 ⟨rfl, b3⟩
  go_wp2_with (refine wpList_cat rfl rfl rfl rfl (by simp; omega) ?_)
  go_ret
  refine ⟨?_, bthen (bthen ((Below.refl _ _).alloc (Nat.le_refl _) _) b2) b3⟩
  unfold tyTx
  rw [if_neg (by omega), if_neg (by omega)]
  rfl
def colsT (l : List Cl) : List Tok := l.flatMap fun c => toksC c ++ [tg [59]]
def colTx (c : Cl) : List UInt8 := c.name ++ [32] ++ tyTx c.k c.m
theorem sp_C (c : Cl) : sp (toksC c) = colTx c ++ [32] := by
 unfold toksC colTx
 rw [sp_cons, sp_T]; simp [tw]
theorem sp_col (c : Cl) : sp (toksC c ++ [tg [59]]) = colTx c ++ [32, 59, 32] := by
 rw [sp_app, sp_C, sp_cons, sp_nil]; simp [tg]
theorem cols_step {l : List Cl} {k : Nat} (h : k < l.length) : sp (colsT (l.take (k + 1))) = sp (colsT (l.take k)) ++ (colTx l[k] ++ [32, 59, 32]) := by
 unfold colsT
 rw [List.take_succ_eq_append_getElem h, List.flatMap_append, sp_app, List.flatMap_cons, List.flatMap_nil, List.append_nil, sp_col]
theorem cols_len (l : List Cl) (k : Nat) : (sp (colsT (l.take k))).length ≤ (sp (colsT l)).length := by
 conv => rhs; rw [← List.take_append_drop k l]
 unfold colsT
 rw [List.flatMap_append, sp_app, List.length_append]
 omega
def tbHead (t : Tb) : List UInt8 := w_table ++ [32] ++ t.name ++ ([32] ++ w_rows ++ [32]) ++ (decL t.rows ++ [32]) ++ [123, 32]
theorem sp_tb (t : Tb) : sp (toksTb t) = tbHead t ++ sp (colsT t.cols) ++ [125, 32] := by
 unfold toksTb tbHead colsT
 simp [sp_cons, sp_app, sp_nil, tw, tg, tn]
def tbsT (l : List Tb) : List Tok := l.flatMap toksTb
theorem tbs_step {l : List Tb} {k : Nat} (h : k < l.length) : sp (tbsT (l.take (k + 1))) = sp (tbsT (l.take k)) ++ (tbHead l[k] ++ sp (colsT l[k].cols) ++ [125, 32]) := by
 unfold tbsT
 rw [List.take_succ_eq_append_getElem h, List.flatMap_append, sp_app, List.flatMap_cons, List.flatMap_nil, List.append_nil, sp_tb]
theorem tbs_len (l : List Tb) (k : Nat) : (sp (tbsT (l.take k))).length ≤ (sp (tbsT l)).length := by
 conv => rhs; rw [← List.take_append_drop k l]
 unfold tbsT
 rw [List.flatMap_append, sp_app, List.length_append]
 omega
theorem ps_take (l : List Cl) (k : Nat) : ∃ t, toksPs l = toksPs (l.take k) ++ t := by
 cases l with
 | nil => exact ⟨[], by simp [toksPs]⟩
 | cons c r =>
  cases k with
  | zero => exact ⟨toksPs (c :: r), by rw [List.take_zero]; rfl⟩
  | succ j =>
   refine ⟨(r.drop j).flatMap fun x => tg [44] :: toksC x, ?_⟩
   rw [List.take_succ_cons]
   show toksC c ++ (r.flatMap fun x => tg [44] :: toksC x) = (toksC c ++ ((r.take j).flatMap fun x => tg [44] :: toksC x)) ++ _
   rw [List.append_assoc, ← List.flatMap_append, List.take_append_drop]
theorem ps_len (l : List Cl) (k : Nat) : (sp (toksPs (l.take k))).length ≤ (sp (toksPs l)).length := by
 obtain ⟨t, e⟩ := ps_take l k
 rw [e, sp_app, List.length_append]
 omega
theorem ps_first {l : List Cl} (h : 0 < l.length) : sp (toksPs (l.take (0 + 1))) = colTx l[0] ++ [32] := by
 cases l with
 | nil => simp at h
 | cons c r =>
  rw [List.take_succ_cons, List.take_zero]
  show sp (toksC c ++ []) = _
  rw [List.append_nil, sp_C]; rfl
theorem ps_next {l : List Cl} {k : Nat} (h : k < l.length) (hk : 0 < k) : sp (toksPs (l.take (k + 1))) = sp (toksPs (l.take k)) ++ ([44, 32] ++ (colTx l[k] ++ [32])) := by
 cases l with
 | nil => simp at h
 | cons c r =>
  cases k with
  | zero => simp at hk
  | succ j =>
   have hj : j < r.length := by simpa using h
   rw [List.take_succ_cons, List.take_succ_cons]
   show sp (toksC c ++ ((r.take (j + 1)).flatMap fun x => tg [44] :: toksC x)) = sp (toksC c ++ ((r.take j).flatMap fun x => tg [44] :: toksC x)) ++ _
   rw [List.take_succ_eq_append_getElem hj, List.flatMap_append, ← List.append_assoc, sp_app, List.flatMap_cons, List.flatMap_nil, List.append_nil, sp_cons, sp_C, List.getElem_cons_succ]
   rfl
def pcHead (p : Pc) : List UInt8 := w_proc ++ [32] ++ p.name ++ [32, 40, 32]
theorem sp_pc (p : Pc) : sp (toksP p) = pcHead p ++ sp (toksPs p.params) ++ ([41, 32] ++ blk p.body) := by
 unfold toksP pcHead blk
 simp [sp_cons, sp_app, sp_nil, tw, tg]
def pcsT (l : List Pc) : List Tok := l.flatMap toksP
theorem pcs_step {l : List Pc} {k : Nat} (h : k < l.length) : sp (pcsT (l.take (k + 1))) = sp (pcsT (l.take k)) ++ (pcHead l[k] ++ sp (toksPs l[k].params) ++ ([41, 32] ++ blk l[k].body)) := by
 unfold pcsT
 rw [List.take_succ_eq_append_getElem h, List.flatMap_append, sp_app, List.flatMap_cons, List.flatMap_nil, List.append_nil, sp_pc]
theorem pcs_len (l : List Pc) (k : Nat) : (sp (pcsT (l.take k))).length ≤ (sp (pcsT l)).length := by
 conv => rhs; rw [← List.take_append_drop k l]
 unfold pcsT
 rw [List.flatMap_append, sp_app, List.length_append]
 omega
theorem sp_textOf : ∀ {l : List Tok}, l ≠ [] → sp l = textOf l ++ [32]
 | [], h => absurd rfl h
 | [t], _ => by rw [sp_cons, sp_nil]; rfl
 | t :: y :: r, _ => by
  rw [sp_cons, sp_textOf (l := y :: r) (by simp)]
  show t.2.1 ++ 32 :: (joinB (txts (y :: r)) ++ [32]) = (t.2.1 ++ 32 :: joinB (txts (y :: r))) ++ [32]
  simp
end Go.Proofs.YtnbmpfdffoidaaaGreat.Y
namespace Go.Proofs.YtnbmpfdffoidaaaGreat.Y
open Go.RowKit O V S X
def RC (w : World) (S : Nat → Prop) (A : Option Addr) (c : Nat) (l : List Cl) : Prop := ∃ es, Row w S 3 A l.length c es ∧ Reps ClR l es
theorem RC.keep {w w' : World} {S : Nat → Prop} {A : Option Addr} {c : Nat} {l : List Cl} (h : RC w S A c l) (hk : ∀ b, S b → w'.heap[b]? = w.heap[b]?) : RC w' S A c l := by
 obtain ⟨es, h1, h2⟩ := h
 exact ⟨es, h1.keep hk, h2⟩
theorem RC.cap {w : World} {S : Nat → Prop} {A : Option Addr} {c : Nat} {l : List Cl} (h : RC w S A c l) : l.length ≤ c ∧ c ≤ 9223372036854775807 := by
 obtain ⟨es, h1, _⟩ := h
 exact h1.cap
theorem RC.at_ {w : World} {S : Nat → Prop} {l : List Cl} {A : Option Addr} {c : Nat} (h : RC w S A c l) {B : Nat} (hS : ∀ b, S b → b < B) {i : Nat} (hi : i < l.length) :
  ∃ b off, (A = some ⟨b, off, none⟩ ∧ b < B) ∧ ∀ W : World, (∀ b, S b → W.heap[b]? = w.heap[b]?) → (W.cell? ⟨b, off + i * 3, none⟩ = some (sv l[i].name) ∧ W.cell? ⟨b, off + i * 3 + 1, none⟩ = some (nv l[i].k)) ∧ W.cell? ⟨b, off + i * 3 + 2, none⟩ = some (nv l[i].m) := by
 obtain ⟨es, h1, h2⟩ := h
 obtain ⟨b, off, vs, e, hb, hr, hc⟩ := (h1.rd hS).elem ClR.size h2 hi (by omega)
 obtain rfl : vs = _ := hr
 refine ⟨b, off, ⟨e, hb⟩, fun W hW => ?_⟩
 obtain ⟨b', off', e', hS', _⟩ := h1.pos (by have := h1.len; omega)
 rw [e] at e'
 injection e' with e'
 injection e' with e1 e2
 subst e1 e2
 have hk : ∀ j, W.cell? ⟨b, j, none⟩ = w.cell? ⟨b, j, none⟩ := fun j => World.cell?_of_block (a := ⟨b, j, none⟩) (hW b hS')
 refine ⟨⟨?_, ?_⟩, ?_⟩ <;> rw [hk]
 ·exact hc 0 (by omega)
 ·exact hc 1 (by omega)
 ·exact hc 2 (by omega)
theorem Cl.same {x y : Cl} (h1 : x.name = y.name) (h2 : x.k = y.k) (h3 : x.m = y.m) : x = y := by
 cases x; cases y; simp_all
theorem cneq_yes {x y : Cl} (h : x ≠ y) (w : World) : (binOp .neq 72 (.agg #[.string ⟨x.name.toArray⟩, .int .i64 x.k, .int .i64 x.m]) (.agg #[.string ⟨y.name.toArray⟩, .int .i64 y.k, .int .i64 y.m])).run Tryz.prog w = .ok (.bool true) w := by
 go_simp
 exact fun h1 h2 h3 => h (Cl.same h1 h2 h3)
theorem cneq_no (x : Cl) (w : World) : (binOp .neq 72 (.agg #[.string ⟨x.name.toArray⟩, .int .i64 x.k, .int .i64 x.m]) (.agg #[.string ⟨x.name.toArray⟩, .int .i64 x.k, .int .i64 x.m])).run Tryz.prog w = .ok (.bool false) w := by
 go_simp
theorem Tb.same {x y : Tb} (h1 : x.name = y.name) (h2 : x.rows = y.rows) (h3 : x.cols = y.cols) : x = y := by
 cases x; cases y; simp_all
theorem sameTab_any (t u : Tb) (A B : Option Addr) (c c' : Nat) (S S' : Nat → Prop) (w : World) (h1 : RC w S A c t.cols) (h2 : RC w S' B c' u.cols) (hS : ∀ b, S b → b < w.heap.size) (hS' : ∀ b, S' b → b < w.heap.size) :
  Calls Tryz.prog 22 #[.agg #[sv t.name, nv t.rows, .slice A t.cols.length c], .agg #[sv u.name, nv u.rows, .slice B u.cols.length c']] w fun e w' => RetQ (t = u) e ∧ Below w.heap.size w w' := by
 obtain ⟨tn, tr, tc⟩ := t
 obtain ⟨un, ur, uc⟩ := u
 dsimp only at h1 h2 ⊢
 have hcl := h1.cap
 have hcm := h2.cap
 have H1 := Lib.hid h1
 have H2 := Lib.hid h2
 have HS := Lib.hid hS
 have HS' := Lib.hid hS'
 clear h1 h2 hS hS'
 have D0 : Below w.heap.size w ((w.alloc (.cells #[sv tn, nv tr, .slice A tc.length c] 67)).alloc (.cells #[sv un, nv ur, .slice B uc.length c'] 67)) := by repeat (first | exact Below.refl _ _ | refine Below.alloc ?_ (by first | omega | (simp <;> omega)) _)
 by_cases e0 : tn = un
 ·subst e0
  have s1 := fun w => sneq_no tn w
  by_cases e1 : tr = ur
  ·subst e1
   by_cases e2 : tc.length = uc.length
   ·obtain ⟨n, hn⟩ : ∃ n, tc.length = n := ⟨_, rfl⟩
    have hn2 : uc.length = n := by omega
    have HN := Lib.hid hn
    have HN2 := Lib.hid hn2
    rw [hn] at hcl D0 ⊢
    rw [hn2] at hcm D0 ⊢
    clear hn hn2 e2
    go_enter Tryz.func22, Tryz.ntmps22
    go_upto_region 3 with fail
    obtain ⟨w2, hw2⟩ : ∃ W, (w.alloc (.cells #[sv tn, nv tr, .slice A n c] 67)).alloc (.cells #[sv tn, nv tr, .slice B n c'] 67) = W := ⟨_, rfl⟩
    have X1 : Hid (w2.heap[w.heap.size]? = some (.cells #[sv tn, nv tr, .slice A n c] 67 (0, 0))) := Lib.hid (by rw [← hw2]; exact alloc_old' (alloc_at rfl))
    have X2 : Hid (w2.heap[w.heap.size + 1]? = some (.cells #[sv tn, nv tr, .slice B n c'] 67 (0, 0))) := Lib.hid (by rw [← hw2]; exact alloc_at (by simp))
    rw [hw2] at D0 ⊢
    clear hw2
    obtain ⟨u0, u1, u2⟩ := cells3 X1.out
    go_wp2_with fail
    go_loopw [4, 30] (fun _ i wr => ∃ k : Nat, k ≤ n ∧ i = .int .i64 k ∧ Hid (tc.take k = uc.take k) ∧ Hid (Below w2.heap.size w2 wr)) (fun _ i _ => n - (intOf i).toNat)
    case atStart => exact ⟨0, by omega, rfl, Lib.hid (by simp), Lib.hid (Below.refl _ _)⟩
    case round =>
     obtain ⟨k, hk, rfl, H, hb⟩ := hrel
     by_cases hlt : k < n
     ·have hlt' : k < tc.length := by rw [HN.out]; exact hlt
      have hlt2 : k < uc.length := by rw [HN2.out]; exact hlt
      have hki : (k : Int) < (n : Int) := by omega
      obtain ⟨b1, off1, ⟨rfl, hb1⟩, hc1⟩ := H1.out.at_ HS.out hlt'
      obtain ⟨b2, off2, ⟨rfl, hb2⟩, hc2⟩ := H2.out.at_ HS'.out hlt2
      have hst := Lib.hid (take_same hlt' hlt2 H.out)
      have hno := Lib.hid (ne_at hlt' hlt2)
      generalize tc[k] = x at *
      generalize uc[k] = y at *
      have X1r := Lib.hid (box_next X1.out hb.out)
      have X2r := Lib.hid (box_next X2.out hb.out)
      have HC1 := Lib.hid hc1
      have HC2 := Lib.hid hc2
      have hzd := D0.size
      have hzr := hb.out.size
      have DR := Lib.hid (D0.trans (hb.out.mono hzd))
      clear hc1 hc2 H u0 u1 u2
      by_cases e3 : x = y
      ·subst e3
       have s3 := fun w => cneq_no x w
       go_wp2_with fail
       refine wp_region_sched [(0, true), (1, true), (2, true), (3, true), (4, true), (5, true), (6, true), (7, true), (8, true), (9, true), (10, true)] (by kernel_rfl) (by kernel_rfl) (fun _ _ d _ _ h => by cases d <;> exact h) ?_
       refine swith (fun W hW => (cells3 (box_next X1r.out ((Below.refl _ _).drew.trans hW.out)))) (fun q1 => ?_)
       refine swith (fun W hW => (cells3 (box_next X2r.out ((Below.refl _ _).drew.trans hW.out)))) (fun q2 => ?_)
       refine swith (fun W hW => (HC1.out W (fun b hB => (bthen DR.out ((Below.refl _ _).drew.trans hW.out)).block b (HS.out b hB)))) (fun q3 => ?_)
       refine swith (fun W hW => (HC2.out W (fun b hB => (bthen DR.out ((Below.refl _ _).drew.trans hW.out)).block b (HS'.out b hB)))) (fun q4 => ?_)
       repeat (first | (refine sreadx rfl rfl ?_; apply Exists.intro; apply And.intro; (· (intro W hW; go_simp; try (first | with_reducible rfl | (rw [if_neg (by omega)]; try with_reducible rfl)))); simp only [Act.put, List.setIfInBounds_toArray, List.set_cons_zero, List.set_cons_succ]) | (refine sskip rfl rfl ?_; simp only [Act.put, List.setIfInBounds_toArray, List.set_cons_zero, List.set_cons_succ]))
       refine sdone ?_
       go_wp2_with fail
       go_roundw
       case rel => exact ⟨k + 1, by omega, by go_num, Lib.hid (hst.out (by trivial)), Lib.hid hb.out.drew⟩
       case measure => simp [intOf]; omega
      ·have s3 := fun w => cneq_yes e3 w
       go_wp2_with fail
       refine wp_region_sched [(0, true), (1, true), (2, true), (3, true), (4, true), (5, true), (6, true), (7, true), (8, true), (9, true), (10, true)] (by kernel_rfl) (by kernel_rfl) (fun _ _ d _ _ h => by cases d <;> exact h) ?_
       refine swith (fun W hW => (cells3 (box_next X1r.out ((Below.refl _ _).drew.trans hW.out)))) (fun q1 => ?_)
       refine swith (fun W hW => (cells3 (box_next X2r.out ((Below.refl _ _).drew.trans hW.out)))) (fun q2 => ?_)
       refine swith (fun W hW => (HC1.out W (fun b hB => (bthen DR.out ((Below.refl _ _).drew.trans hW.out)).block b (HS.out b hB)))) (fun q3 => ?_)
       refine swith (fun W hW => (HC2.out W (fun b hB => (bthen DR.out ((Below.refl _ _).drew.trans hW.out)).block b (HS'.out b hB)))) (fun q4 => ?_)
       repeat (first | (refine sreadx rfl rfl ?_; apply Exists.intro; apply And.intro; (· (intro W hW; go_simp; try (first | with_reducible rfl | (rw [if_neg (by omega)]; try with_reducible rfl)))); simp only [Act.put, List.setIfInBounds_toArray, List.set_cons_zero, List.set_cons_succ]) | (refine sskip rfl rfl ?_; simp only [Act.put, List.setIfInBounds_toArray, List.set_cons_zero, List.set_cons_succ]))
       refine sdone ?_
       go_wp2_with fail
       go_ret
       refine ⟨⟨false, rfl, ?_⟩, DR.out.drew⟩
       have := hno.out e3
       simp [this]
     ·obtain rfl : k = n := by omega
      have hall : tc = uc := by
       have := H.out
       rwa [List.take_of_length_le (by rw [HN.out]; exact Nat.le_refl _), List.take_of_length_le (by rw [HN2.out]; exact Nat.le_refl _)] at this
      go_wp2_with fail
      go_ret
      exact ⟨⟨true, rfl, by simp [hall]⟩, D0.trans (hb.out.mono D0.size)⟩
   ·have d2 : ((tc.length : Int) != (uc.length : Int)) = true := by simp; omega
    have hne : tc ≠ uc := fun e => e2 (by rw [e])
    have HNE := Lib.hid hne
    clear hne
    go_enter Tryz.func22, Tryz.ntmps22
    go_wp2_with fail
    go_ret
    exact ⟨⟨false, rfl, by simp [HNE.out]⟩, D0⟩
  ·have d1 : (tr != ur) = true := by simpa using e1
   go_enter Tryz.func22, Tryz.ntmps22
   go_wp2_with fail
   go_ret
   exact ⟨⟨false, rfl, by simp [e1]⟩, D0⟩
 ·have s1 := fun w => sneq_yes e0 w
  go_enter Tryz.func22, Tryz.ntmps22
  go_wp2_with fail
  go_ret
  exact ⟨⟨false, rfl, by simp [e0]⟩, D0⟩
end Go.Proofs.YtnbmpfdffoidaaaGreat.Y
