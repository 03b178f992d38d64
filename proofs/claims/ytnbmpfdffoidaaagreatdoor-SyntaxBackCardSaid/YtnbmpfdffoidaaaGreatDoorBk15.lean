/- Texts of the proof, joined: SynPq4, SynExpr, SynUn. -/
import Derived.Test.YtnbmpfdffoidaaaGreatDoorBk10
import Derived.Test.YtnbmpfdffoidaaaGreatDoorBk14
set_option linter.unusedVariables false
set_option linter.unusedSimpArgs false
set_option maxHeartbeats 8000000
set_option maxRecDepth 100000
namespace Go.Proofs.YtnbmpfdffoidaaaGreatDoor.Y
open Go.RowKit O V S X
def colK (c : Cl) : List Tok := toksC c ++ [tg [59]]
theorem txts_tb (n : List UInt8) (r : Int) (l : List Cl) : txts (toksTb ⟨n, r, l⟩) = [w_table, n, w_rows] ++ ([decL r] ++ ([[123]] ++ (txts (l.flatMap colK) ++ [[125]]))) := by
 unfold toksTb colK
 simp [txts, tw, tg, tn]
theorem txts_colK (n : List UInt8) (k m : Int) : txts (colK ⟨n, k, m⟩) = [n] ++ (txts (toksT k m) ++ [[59]]) := by
 unfold colK
 rw [txts_app, txts_C]; rfl
abbrev tbO (n : List UInt8) (r : Int) (a : Value) : Obj := .cells #[sv n, nv r, a] 66
abbrev tbB (n : List UInt8) (r : Int) (a : Value) : Obj := .cells #[sv n, nv r, a] 66 (0, 0)
theorem printW_any (k : Wk) (hk : okW k) (hlim : (toksW k).length ≤ 1000000) (hlen : (textOf (toksW k)).length ≤ 140737488355328) (v : Value) (S : Nat → Prop) (w : World) (h : WkR w S k v) (hS : ∀ b, S b → b < w.heap.size) :
  Calls Tryz.prog 8 #[v] w fun e w' => e = .returned (sv (textOf (toksW k))) ∧ Below w.heap.size w w' := by
 obtain ⟨A, c, es, B, d, fs, rfl, ha, hb, hc⟩ := h
 have hT1 : RT w S A c k.tables := ⟨_, ha⟩
 have hP1 : RP w S B d k.procs := ⟨_, hb, hc⟩
 have k1 := hT1.cap
 have k3 := hP1.cap
 have hall : txts (toksW k) = txts (k.tables.flatMap toksTb) ++ txts (k.procs.flatMap toksP) := by
  show txts (k.tables.flatMap toksTb ++ k.procs.flatMap toksP) = _
  rw [txts_app]
 have hl0 : (txts (k.tables.flatMap toksTb)).length + (txts (k.procs.flatMap toksP)).length ≤ 1000000 := by
  rw [← List.length_append, ← hall, txts_len]; exact hlim
 have HALL := Lib.hid hall
 have HLEN := Lib.hid hlen
 have HK := Lib.hid hk
 obtain ⟨n, hn⟩ : ∃ n, k.tables.length = n := ⟨_, rfl⟩
 obtain ⟨m, hm⟩ : ∃ m, k.procs.length = m := ⟨_, rfl⟩
 have HN := Lib.hid hn
 have HM := Lib.hid hm
 rw [hn] at k1 ⊢
 rw [hm] at k3 ⊢
 have D0 : Below w.heap.size w ((w.alloc (.cells #[.slice A n c, .slice B m d] 25)).alloc (.cells #[.slice none 0 0] 64)) := ((Below.refl _ _).alloc (Nat.le_refl _) _).alloc (by simp) _
 have hX1 : ((w.alloc (.cells #[.slice A n c, .slice B m d] 25)).alloc (.cells #[.slice none 0 0] 64)).heap[w.heap.size]? = some (.cells #[.slice A n c, .slice B m d] 25 (0, 0)) := alloc_old' (alloc_at rfl)
 have hPr : Pr ((w.alloc (.cells #[.slice A n c, .slice B m d] 25)).alloc (.cells #[.slice none 0 0] 64)) (w.heap.size + 1) [] := ⟨none, 0, 0, alloc_at (by simp), World.ownsRow_nil _ _ _ _⟩
 have hz0 : ((w.alloc (.cells #[.slice A n c, .slice B m d] 25)).alloc (.cells #[.slice none 0 0] 64)).heap.size = w.heap.size + 1 + 1 := by simp
 obtain ⟨R, hR⟩ : ∃ R, textOf (toksW k) = R := ⟨_, rfl⟩
 have HR := Lib.hid hR
 rw [hR]
 clear ha hb hc hk hlim hlen hn hm hR hall
 go_enter Tryz.func8, Tryz.ntmps8
 go_upto_region 2 with fail
 obtain ⟨w2, hw2⟩ : ∃ W, (w.alloc (.cells #[.slice A n c, .slice B m d] 25)).alloc (.cells #[.slice none 0 0] 64) = W := ⟨_, rfl⟩
 rw [hw2] at D0 hX1 hPr hz0 ⊢
 have T1 : Hid (RT w2 S A c k.tables) := Lib.hid (hT1.keep fun b hB => D0.block b (hS b hB))
 have P1 : Hid (RP w2 S B d k.procs) := Lib.hid (hP1.keep fun b hB => D0.block b (hS b hB))
 have X1 := Lib.hid hX1
 obtain ⟨g, hg⟩ : ∃ g, w.heap.size + 1 = g := ⟨_, rfl⟩
 rw [hg] at hPr ⊢
 have hwg : w.heap.size < g := by omega
 have hg2 : g ≤ w2.heap.size := by omega
 have HS : Hid (∀ b, S b → b < g) := Lib.hid fun b hB => by have := hS b hB; omega
 have PW := Lib.hid hPr
 have FW : Hid (PF g w2 w2) := Lib.hid (.refl _ _)
 have D02 := Lib.hid D0
 clear hw2 hT1 hP1 hX1 hPr hS D0
 obtain ⟨u0, u1⟩ := box2 X1.out
 go_wp2_with fail
 clear u0 u1
 go_loopw [15] (fun i wr => ∃ j : Nat, j ≤ n ∧ i = .int .i64 j ∧ Hid (Pr wr g (txts ((k.tables.take j).flatMap toksTb))) ∧ Hid (PF g w2 wr)) (fun i _ => n - (intOf i).toNat)
 case atStart => exact ⟨0, by omega, rfl, Lib.hid (by rw [List.take_zero]; exact PW.out), FW⟩
 case round =>
  clear PW FW
  obtain ⟨j, hj, rfl, PW, FW⟩ := hrel
  have hzr := FW.out.size
  have hX := (((FW.out.below hg2).block _ hwg).trans X1.out)
  by_cases hlt : j < n
  ·have hlt' : j < k.tables.length := by rw [HN.out]; exact hlt
   have hji : (j : Int) < (n : Int) := by omega
   obtain ⟨b1, off1, A1, c1, ⟨rfl, hb1⟩, rc1, hc1⟩ := T1.out.at_ HS.out hlt'
   have hst := flat_step toksTb hlt'
   have hle := flat_len toksTb k.tables (j + 1)
   rw [hst, List.length_append] at hle
   have HST := Lib.hid hst
   have HOT := Lib.hid (HK.out.t.2 _ (List.getElem_mem hlt'))
   have RC1 := Lib.hid rc1
   obtain ⟨⟨x0, x1⟩, x2⟩ := hc1 wr (fun b hB => (FW.out.below hg2).block b (HS.out b hB))
   clear rc1 hst hc1
   generalize k.tables[j] = t at *
   obtain ⟨tn, tr, tc⟩ := t
   obtain ⟨F, hF⟩ : ∃ F, txts ((k.tables.take j).flatMap toksTb) = F := ⟨_, rfl⟩
   rw [hF] at hle HST PW
   rw [txts_tb] at hle HST
   simp only [List.length_append, List.length_cons, List.length_nil] at hle
   have HOK := Lib.hid (HOT.out.c.2)
   have hRo := HOT.out.r
   try dsimp only at HOK
   try dsimp only at hRo
   try dsimp only at RC1
   try dsimp only at x0
   try dsimp only at x1
   try dsimp only at x2
   have hnb : -9223372036854775808 ≤ tr ∧ tr ≤ 9223372036854775807 := by unfold okNum at hRo; omega
   have RN := Lib.hid (pnum_raw tr g w2 hnb.1 hnb.2)
   have hcl := flat_len colK tc
   have kc := RC1.out.cap
   obtain ⟨nc, hnc⟩ : ∃ z, tc.length = z := ⟨_, rfl⟩
   have HNC := Lib.hid hnc
   rw [hnc] at x2 kc
   have hbw : b1 < wr.heap.size := by omega
   clear hF hRo hnb HOT hnc hX
   go_upto_region 5 with fail
   have TX : Hid ((wr.alloc (tbO tn tr (.slice A1 nc c1))).heap[wr.heap.size]? = some (tbB tn tr (.slice A1 nc c1))) := Lib.hid (alloc_at rfl)
   replace PW := Lib.hid (PW.out.next (one_new (o := tbO tn tr (.slice A1 nc c1))))
   replace FW := Lib.hid (FW.out.then (one_new (o := tbO tn tr (.slice A1 nc c1))))
   have hltT : g < wr.heap.size := by omega
   obtain ⟨w4, hw4⟩ : ∃ W, wr.alloc (tbO tn tr (.slice A1 nc c1)) = W := ⟨_, rfl⟩
   rw [hw4] at TX PW FW ⊢
   clear hw4 x0 x1 x2
   obtain ⟨⟨x0, x1⟩, x2⟩ := cells3p TX.out
   go_wp2_with fail
   refine (put_any g _ _ _ [w_table, tn, w_rows] _ _ (PW.out.next one_new) (Rd.made _ _ rfl (by first | rfl | simp)) (by simp; omega)).mono ?_; rintro e w5 ⟨rfl, p5, f5⟩
   replace FW := Lib.hid ((FW.out.then one_new).trans f5)
   replace PW := Lib.hid p5
   clear p5
   replace TX := Lib.hid (f5.keep hltT (box_next TX.out one_new) (by decide))
   clear f5 x0 x1 x2
   obtain ⟨⟨x0, x1⟩, x2⟩ := cells3p TX.out
   go_wp2_with fail
   refine (RN.out _ _ (FW.out.below hg2) PW.out (by simp; omega)).mono ?_; rintro e w6 ⟨rfl, p6, f6⟩
   replace FW := Lib.hid (FW.out.trans f6)
   replace PW := Lib.hid p6
   clear p6
   replace TX := Lib.hid (f6.keep hltT TX.out (by decide))
   clear f6 x0 x1 x2
   go_wp2_with fail
   refine (put_any g _ _ _ [[123]] _ _ (PW.out.next one_new) (Rd.made _ _ rfl (by first | rfl | simp)) (by simp; omega)).mono ?_; rintro e w7 ⟨rfl, p7, f7⟩
   replace FW := Lib.hid ((FW.out.then one_new).trans f7)
   replace PW := Lib.hid p7
   clear p7
   replace TX := Lib.hid (f7.keep hltT (box_next TX.out one_new) (by decide))
   clear f7
   obtain ⟨⟨x0, x1⟩, x2⟩ := cells3p TX.out
   go_wp2_with fail
   clear x0 x1 x2 TX
   obtain ⟨F2, hF2⟩ : ∃ F2, F ++ [w_table, tn, w_rows] ++ [decL tr] ++ [[123]] = F2 := ⟨_, rfl⟩
   have hF2l : F2.length + (txts (tc.flatMap colK)).length + 1 ≤ 1000000 := by rw [← hF2]; simp only [List.length_append, List.length_cons, List.length_nil]; omega
   rw [hF2] at PW
   have HF2 := Lib.hid hF2
   clear hF2 hle
   go_loopw [34] (fun i wr => ∃ z : Nat, z ≤ nc ∧ i = .int .i64 z ∧ Hid (Pr wr g (F2 ++ txts ((tc.take z).flatMap colK))) ∧ Hid (PF g w2 wr)) (fun i _ => nc - (intOf i).toNat)
   case atStart => exact ⟨0, by omega, rfl, Lib.hid (by rw [List.take_zero, show txts (List.flatMap colK []) = [] from rfl, List.append_nil]; exact PW.out), FW⟩
   case round =>
    clear PW FW
    obtain ⟨z, hz, rfl, PW, FW⟩ := hrel
    have hzz := FW.out.size
    have hclz := hcl z
    by_cases hzl : z < nc
    ·have hzl' : z < tc.length := by rw [HNC.out]; exact hzl
     have hzi : (z : Int) < (nc : Int) := by omega
     obtain ⟨b3, off3, ⟨rfl, hb3⟩, hc3⟩ := RC1.out.at_ HS.out hzl'
     have hst := flat_step colK hzl'
     have hcl1 := hcl (z + 1)
     rw [hst, List.length_append] at hcl1
     have HSC := Lib.hid hst
     have HTY1 := Lib.hid (HOK.out _ (List.getElem_mem hzl')).t
     obtain ⟨⟨y0, y1⟩, y2⟩ := hc3 wr (fun b hB => (FW.out.below hg2).block b (HS.out b hB))
     clear hst hc3
     generalize tc[z] = cl at *
     obtain ⟨cn, ck, cm⟩ := cl
     try dsimp only at y0
     try dsimp only at y1
     try dsimp only at y2
     rw [txts_colK] at HSC hcl1
     simp only [List.length_append, List.length_cons, List.length_nil] at hcl1
     have HTY := Lib.hid (ptyp_raw ck cm HTY1.out g w2)
     have hb3w : b3 < wr.heap.size := by omega
     have hltC : g < wr.heap.size := by omega
     clear HTY1
     generalize txts (toksT ck cm) = Y at *
     go_upto_region 11 with fail
     have CX : Hid ((wr.alloc (clO cn ck cm)).heap[wr.heap.size]? = some (clB cn ck cm)) := Lib.hid (alloc_at rfl)
     replace PW := Lib.hid (PW.out.next (one_new (o := clO cn ck cm)))
     replace FW := Lib.hid (FW.out.then (one_new (o := clO cn ck cm)))
     obtain ⟨w8, hw8⟩ : ∃ W, wr.alloc (clO cn ck cm) = W := ⟨_, rfl⟩
     rw [hw8] at CX PW FW ⊢
     clear hw8 y0 y1 y2
     obtain ⟨⟨z0, z1⟩, z2⟩ := cells3p CX.out
     go_wp2_with fail
     refine (put_any g _ _ _ [cn] _ _ (PW.out.next one_new) (Rd.made _ _ rfl (by first | rfl | simp)) (by simp; omega)).mono ?_; rintro e w9 ⟨rfl, p9, f9⟩
     replace FW := Lib.hid ((FW.out.then one_new).trans f9)
     replace PW := Lib.hid p9
     clear p9
     replace CX := Lib.hid (f9.keep hltC (box_next CX.out one_new) (by decide))
     clear f9 z0 z1 z2
     obtain ⟨⟨z0, z1⟩, z2⟩ := cells3p CX.out
     go_wp2_with fail
     refine (HTY.out _ _ (FW.out.below hg2) PW.out (by simp; omega)).mono ?_; rintro e w10 ⟨rfl, p10, f10⟩
     replace FW := Lib.hid (FW.out.trans f10)
     replace PW := Lib.hid p10
     clear p10
     clear f10 z0 z1 z2 CX
     go_wp2_with fail
     refine (put_any g _ _ _ [[59]] _ _ (PW.out.next one_new) (Rd.made _ _ rfl (by first | rfl | simp)) (by simp; omega)).mono ?_; rintro e w11 ⟨rfl, p11, f11⟩
     replace FW := Lib.hid ((FW.out.then one_new).trans f11)
     replace PW := Lib.hid p11
     clear p11
     clear f11
     go_wp2_with fail
     go_roundw
     case rel => exact ⟨z + 1, by omega, by go_num, Lib.hid (by rw [HSC.out]; simpa only [List.append_assoc, List.cons_append, List.nil_append] using PW.out), FW⟩
     case measure => simp [intOf]; omega
    ·obtain rfl : z = nc := by omega
     rw [List.take_of_length_le (by rw [HNC.out]; exact Nat.le_refl _)] at PW
     have hzi : ¬ (z : Int) < (z : Int) := by omega
     clear hclz
     go_wp2_with fail
     go_wp2_with fail
     refine (put_any g _ _ _ [[125]] _ _ (PW.out.next one_new) (Rd.made _ _ rfl (by first | rfl | simp)) (by simp; omega)).mono ?_; rintro e w9 ⟨rfl, p9, f9⟩
     replace FW := Lib.hid ((FW.out.then one_new).trans f9)
     replace PW := Lib.hid p9
     clear p9
     clear f9
     go_wp2_with fail
     go_roundw
     case rel => exact ⟨j + 1, by omega, by go_num, Lib.hid (by rw [HST.out]; have := PW.out; rw [← HF2.out] at this; simpa only [List.append_assoc, List.cons_append, List.nil_append] using this), FW⟩
     case measure => simp [intOf]; omega
  ·obtain rfl : j = n := by omega
   rw [List.take_of_length_le (by rw [HN.out]; exact Nat.le_refl _)] at PW
   obtain ⟨F0, hF0⟩ : ∃ F0, txts (k.tables.flatMap toksTb) = F0 := ⟨_, rfl⟩
   rw [hF0] at hl0 PW
   have HF0 := Lib.hid hF0
   have hji : ¬ (j : Int) < (j : Int) := by omega
   obtain ⟨u0, u1⟩ := box2 hX
   clear hF0 hX
   go_wp2_with fail
   clear u0 u1
   go_loopw [58] (fun i wr => ∃ j : Nat, j ≤ m ∧ i = .int .i64 j ∧ Hid (Pr wr g (F0 ++ txts ((k.procs.take j).flatMap toksP))) ∧ Hid (PF g w2 wr)) (fun i _ => m - (intOf i).toNat)
   case atStart => exact ⟨0, by omega, rfl, Lib.hid (by rw [List.take_zero, show txts (List.flatMap toksP []) = [] from rfl, List.append_nil]; exact PW.out), FW⟩
   case round =>
    clear PW FW
    obtain ⟨j, hj, rfl, PW, FW⟩ := hrel
    have hzr := FW.out.size
    by_cases hlt : j < m
    ·have hlt' : j < k.procs.length := by rw [HM.out]; exact hlt
     have hji : (j : Int) < (m : Int) := by omega
     obtain ⟨b1, off1, A1, c1, B1, d1, p1, q1, r1, ⟨rfl, hb1⟩, ⟨rc1, rs1⟩, hc1⟩ := P1.out.at_ HS.out hlt'
     have hst := flat_step toksP hlt'
     have hle := flat_len toksP k.procs (j + 1)
     rw [hst, List.length_append] at hle
     have HST := Lib.hid hst
     have HOT := Lib.hid (HK.out.p.2 _ (List.getElem_mem hlt'))
     have hcell : ∀ i, i < 6 → wr.cell? ⟨b1, off1 + j * 6 + i, none⟩ = _ := fun i hi => ((FW.out.below hg2).cell (p := ⟨b1, off1 + j * 6 + i, none⟩) hb1).trans (hc1 i hi)
     clear hst hc1
     generalize k.procs[j] = t at *
     obtain ⟨tn, tp, tb⟩ := t
     have HPR := Lib.hid (pproc_raw tn tp tb (fun c hc => (HOT.out.c.2 c hc).t) HOT.out.b.1.1 A1 c1 B1 d1 p1 q1 r1 g S w2 rc1 rs1 HS.out hg2)
     generalize txts (toksP ⟨tn, tp, tb⟩) = Y at *
     have y0 : wr.cell? ⟨b1, off1 + j * 6, none⟩ = some (sv tn) := hcell 0 (by omega)
     have y1 : wr.cell? ⟨b1, off1 + j * 6 + 1, none⟩ = some (.slice A1 tp.length c1) := hcell 1 (by omega)
     have y2 : wr.cell? ⟨b1, off1 + j * 6 + 2, none⟩ = some (.slice B1 tb.len d1) := hcell 2 (by omega)
     have y3 : wr.cell? ⟨b1, off1 + j * 6 + 3, none⟩ = some (nv p1) := hcell 3 (by omega)
     have y4 : wr.cell? ⟨b1, off1 + j * 6 + 4, none⟩ = some (nv q1) := hcell 4 (by omega)
     have y5 : wr.cell? ⟨b1, off1 + j * 6 + 5, none⟩ = some (nv r1) := hcell 5 (by omega)
     clear hcell HOT rc1 rs1
     generalize tp.length = np at *
     generalize tb.len = mb at *
     have hbw : b1 < wr.heap.size := by omega
     go_upto_region 20 with fail
     have BX : Hid ((wr.alloc (pcO tn (.slice A1 np c1) (.slice B1 mb d1) p1 q1 r1)).heap[wr.heap.size]? = some (pcB tn (.slice A1 np c1) (.slice B1 mb d1) p1 q1 r1)) := Lib.hid (alloc_at rfl)
     replace PW := Lib.hid (PW.out.next (one_new (o := pcO tn (.slice A1 np c1) (.slice B1 mb d1) p1 q1 r1)))
     replace FW := Lib.hid (FW.out.then (one_new (o := pcO tn (.slice A1 np c1) (.slice B1 mb d1) p1 q1 r1)))
     obtain ⟨w4, hw4⟩ : ∃ W, wr.alloc (pcO tn (.slice A1 np c1) (.slice B1 mb d1) p1 q1 r1) = W := ⟨_, rfl⟩
     rw [hw4] at BX PW FW ⊢
     clear hw4 y0 y1 y2 y3 y4 y5
     obtain ⟨⟨⟨x0, x1⟩, x2, x3⟩, x4, x5⟩ := box6 BX.out
     go_wp2_with fail
     refine (HPR.out _ _ (FW.out.below hg2) PW.out (by simp; omega)).mono ?_; rintro e w5 ⟨rfl, p5, f5⟩
     replace FW := Lib.hid (FW.out.trans f5)
     replace PW := Lib.hid p5
     clear p5
     clear f5 x0 x1 x2 x3 x4 x5 BX
     go_wp2_with fail
     go_roundw
     case rel => exact ⟨j + 1, by omega, by go_num, Lib.hid (by rw [HST.out, ← List.append_assoc]; exact PW.out), FW⟩
     case measure => simp [intOf]; omega
    ·obtain rfl : j = m := by omega
     rw [List.take_of_length_le (by rw [HM.out]; exact Nat.le_refl _)] at PW
     have hji : ¬ (j : Int) < (j : Int) := by omega
     have hp := PW.out
     rw [← HF0.out, ← HALL.out] at hp
     obtain ⟨A2, n2, c2, h2, o2⟩ := hp
     have y0 : wr.cell? ⟨g, 0, none⟩ = some (.slice A2 n2 c2) := by rw [Lib.cell_of_heap h2]; rfl
     have hn2 : n2 ≤ 1000000 := by have := o2.1; rw [List.length_map, HALL.out, List.length_append, HF0.out] at this; omega
     have hj := joinB_eq (txts (toksW k))
     have O2 := Lib.hid o2
     clear o2 h2 PW
     go_wp2_with fail
     refine (join_rd (c := c2) (txts (toksW k)) [32] (Rd.of_own O2.out) (own_cap O2.out) (by omega) (by rw [hj]; exact HLEN.out)).mono ?_; rintro e w3 ⟨rfl, b3⟩
     rw [hj, show joinB (txts (toksW k)) = R from HR.out]
     go_wp2_with fail
     go_ret
     refine ⟨rfl, D02.out.trans ?_⟩
     have := FW.out.below hg2
     exact (this.mono (by omega)).trans (b3.mono (by omega))
end Go.Proofs.YtnbmpfdffoidaaaGreatDoor.Y
namespace Go.Proofs.YtnbmpfdffoidaaaGreatDoor.Y
open Go.RowKit O V S X
def EC (f : Nat) : Prop := ∀ (g d lvl : Nat) (l : List Tok) (w : World), Ps w g d l → d ≤ 16 → pExpr f lvl d l ≠ .oof → Calls Tryz.prog 167 #[.pointer (some ⟨g, 0, none⟩), nv lvl] w (Out [g] g d w (pExpr f lvl d l) (ExG w.heap.size))
def UC (f : Nat) : Prop := ∀ (g d : Nat) (l : List Tok) (w : World), Ps w g d l → d ≤ 16 → pUnary f d l ≠ .oof → Calls Tryz.prog 176 #[.pointer (some ⟨g, 0, none⟩)] w (Out [g] g d w (pUnary f d l) (ExG w.heap.size))
def OC (f : Nat) : Prop := ∀ (g d : Nat) (l : List Tok) (w : World), Ps w g d l → d ≤ 16 → pOperand f d l ≠ .oof → Calls Tryz.prog 180 #[.pointer (some ⟨g, 0, none⟩)] w (Out [g] g d w (pOperand f d l) (ExG w.heap.size))
def lenW (w : World) (g : Nat) : Nat := match w.cell? ⟨g, 0, none⟩ with
 | some (.slice _ n _) => n
 | _ => 0
theorem Ps.lenW {w : World} {g d : Nat} {l : List Tok} (h : Ps w g d l) : lenW w g = l.length := by
 obtain ⟨A, n, c, a, b, e, h⟩ := h
 unfold Y.lenW
 rw [h.cells.1.1, h.row.len]
theorem ExR.set {w : World} {S : Nat → Prop} {x : Ex} {vs : List Value} {b i : Nat} (h : ExR w S x vs) (hb : ¬ S b) (v : Value) : ExR (w.setCell ⟨b, i, none⟩ v) S x vs :=
 ExR.keep (fun k hk => Below.heap_setCell _ _ _ _ (fun e => hb (by rw [← show k = b from e]; exact hk))) _ _ h
theorem bind_no {α β : Type} {p : Res α} {k : α → List Tok → Res β} {R : Res β} (h : p.bind k = R) (hR : R ≠ .oof) : p ≠ .oof := by
 rintro rfl
 exact hR h.symm
theorem expr_step (f : Nat) (hU : UC f) (hE : ∀ f', f' ≤ f → EC f') : EC (f + 1) := by
 intro g d lvl l w h hd hno
 obtain ⟨RT, hRT⟩ : ∃ RT, pExpr (f + 1) lvl d l = RT := ⟨_, rfl⟩
 rw [hRT] at hno ⊢
 rw [pExpr_succ] at hRT
 have HRT := Lib.hid hRT
 have HNO := Lib.hid hno
 have HS := Lib.hid h
 have hlt := h.lt
 clear hRT hno h
 have HE := Lib.hid hE
 have HU := Lib.hid (hU g d l (w.alloc (.cells #[nv 0, nv 0, nv 0, sv [], sv [], sv [], nv 0, .slice none 0 0, nv 0, nv 0, nv 0] 59)) (HS.out.alloc _) hd (bind_no HRT.out HNO.out))
 clear hE hU
 go_enter Tryz.func167, Tryz.ntmps167
 go_wp2_with fail
 refine HU.out.mono ?_; rintro e w1 ⟨m1, h1⟩
 have M1 : Hid (Mod [g] w w1) := Lib.hid (((Mod.refl _ _).alloc _).then m1)
 have Z1 : Hid (w1.heap[w.heap.size]? = some (.cells #[nv 0, nv 0, nv 0, sv [], sv [], sv [], nv 0, .slice none 0 0, nv 0, nv 0, nv 0] 59 (0, 0))) := Lib.hid (m1.box (alloc_at rfl) (by simp; omega))
 clear m1 HU
 cases hu : pUnary f d l with
 | oof => rw [hu] at h1; exact h1.elim
 | bad =>
  rw [hu] at h1
  obtain ⟨er, ep, eq, ez, hne, rfl⟩ := h1
  have HN := Lib.hid hne
  clear hne
  have hq := (by have := HRT.out; rw [hu] at this; exact this)
  simp only [bind_bad, bind_ok] at hq
  subst hq
  go_wp2_with fail
  exact ⟨rfl, M1.out, er, ep, eq, ez, HN.out, rfl⟩
 | ok x r =>
  rw [hu] at h1
  obtain ⟨p1, v, rfl, vs, S, rfl, hx, hS⟩ := h1
  have HR1 : Hid (pLoop f lvl d x r = RT) := Lib.hid (by have := HRT.out; rw [hu] at this; exact this)
  obtain ⟨A, n, c, p, q, z, rfl⟩ := hx.form
  have P1 := Lib.hid p1
  have X1 := Lib.hid hx
  have S1 := Lib.hid hS
  have hv : Value.agg (exC x (.slice A n c) p q z).toArray = .agg #[nv (hdK x), nv (hdV x).k, nv (hdV x).n, sv (hdV x).s, sv (hdN x), sv (hdC x), nv (hdO x : Nat), .slice A n c, nv p, nv q, nv z] := rfl
  rw [hv]
  clear hv p1 hx hS HRT hu
  go_wp2_with fail
  have hs1 := M1.out.size
  have hlo : w.heap.size < w1.heap.size := (Array.getElem?_eq_some_iff.1 Z1.out).1
  have D0 := Lib.hid (P1.out.alloc (.cells #[nv (hdK x), nv (hdV x).k, nv (hdV x).n, sv (hdV x).s, sv (hdN x), sv (hdC x), nv (hdO x : Nat), .slice A n c, nv p, nv q, nv z] 59))
  go_loopw [6, 7, 8] (fun _ _ _ wr => ∃ (f' : Nat) (x : Ex) (l' : List Tok) (vs : List Value) (S : Nat → Prop), f' ≤ f ∧ Hid (pLoop f' lvl d x l' = RT) ∧ Hid (wr.heap[w1.heap.size]? = some (.cells vs.toArray 59 (0, 0))) ∧ Hid (ExR wr S x vs) ∧ Hid (∀ b, S b → w.heap.size < b ∧ b < wr.heap.size ∧ b ≠ w1.heap.size) ∧ Hid (Ps wr g d l') ∧ Hid (Mod [g] w wr) ∧ Hid (wr.heap[w.heap.size]? = some (.cells #[nv 0, nv 0, nv 0, sv [], sv [], sv [], nv 0, .slice none 0 0, nv 0, nv 0, nv 0] 59 (0, 0)))) (fun _ _ _ wr => lenW wr g)
  case atStart =>
   refine ⟨f, x, r, exC x (.slice A n c) p q z, S, Nat.le_refl _, HR1, Lib.hid (alloc_at rfl), Lib.hid (ExR.keep (fun b hb => ?_) _ _ X1.out), Lib.hid (fun b hb => ?_), D0, Lib.hid (M1.out.alloc _), Lib.hid (alloc_old' Z1.out)⟩
   ·exact Below.heap_alloc _ _ _ (S1.out b hb).2
   ·have := S1.out b hb
    simp at this
    refine ⟨by omega, by simp; omega, by omega⟩
  case round =>
   obtain ⟨f', x', l', vs, S', hf', HR, HX, HT, HSS, HP, HM, HZ⟩ := hrel
   clear D0 P1 X1 S1 HR1
   generalize w1.heap.size = bx at *
   go_wp2_with fail
   refine (operator_any g d l' _ HP.out).mono ?_; rintro e w2 ⟨rfl, rfl⟩
   obtain ⟨o1, ho1⟩ : ∃ o, (opT l').1 = o := ⟨_, rfl⟩
   obtain ⟨o2, ho2⟩ : ∃ o, (opT l').2 = o := ⟨_, rfl⟩
   rw [ho1, ho2]
   cases f' with
   | zero => exact absurd (HR.out.symm.trans (pLoop_zero _ _ _ _)) HNO.out
   | succ f2 =>
    have hR2 := HR.out
    rw [pLoop_succ, ho1, ho2] at hR2
    obtain ⟨A, n, c, p, q, z, rfl⟩ := HT.out.form
    have hb0 : Hid (w2.heap[bx]? = some (.cells #[nv (hdK x'), nv (hdV x').k, nv (hdV x').n, sv (hdV x').s, sv (hdN x'), sv (hdC x'), nv (hdO x' : Nat), .slice A n c, nv p, nv q, nv z] 59 (0, 0))) := HX
    by_cases hle : o2 ≤ lvl
    ·rw [if_pos hle] at hR2
     have HR2 := Lib.hid hR2
     have d1 : decide ((o2 : Int) ≤ (lvl : Int)) = true := by simp; omega
     have d2 : decide (o2 ≤ lvl) = true := by simp; omega
     obtain ⟨⟨⟨⟨y0, y1⟩, y2, y3⟩, ⟨y4, y5⟩, y6, y7⟩, ⟨y8, y9⟩, y10⟩ := cells11 hb0.out
     obtain ⟨⟨⟨⟨z0, z1⟩, z2, z3⟩, ⟨z4, z5⟩, z6, z7⟩, ⟨z8, z9⟩, z10⟩ := cells11 HZ.out
     obtain ⟨⟨⟨⟨fr0, fr1⟩, fr2, fr3⟩, ⟨fr4, fr5⟩, fr6, fr7⟩, ⟨fr8, fr9⟩, fr10⟩ := frozen11 HZ.out
     clear hR2 hle ho1 ho2
     go_wp2_with fail
     refine bodyPost_ret (v := .agg #[nv (hdK x'), nv (hdV x').k, nv (hdV x').n, sv (hdV x').s, sv (hdN x'), sv (hdC x'), nv (hdO x' : Nat), .slice A n c, nv p, nv q, nv z]) (by simp [results, Tryz.results167, go_sem, z0, z1, z2, z3, z4, z5, z6, z7, z8, z9, z10]) rfl ?_
     have hq := HR2.out
     subst hq
     have hns : ¬ S' w.heap.size := fun hh => by have := HSS.out _ hh; omega
     refine ⟨?_, ?_, _, rfl, exC x' (.slice A n c) p q z, S', rfl, ?_, ?_⟩
     ·repeat (first | (with_reducible exact HM.out) | refine Mod.set ?_ (.inr (Nat.le_refl _)) _)
     ·repeat (first | (with_reducible exact HP.out) | refine Ps.set ?_ hlt _)
     ·repeat (first | (with_reducible exact HT.out) | refine ExR.set ?_ hns _)
     ·intro b hb
      have := HSS.out b hb
      simp
      omega
    ·rw [if_neg hle] at hR2
     have HR2 := Lib.hid hR2
     have d1 : decide ((o2 : Int) ≤ (lvl : Int)) = false := by simp; omega
     have d2 : decide (o2 ≤ lvl) = false := by simp; omega
     obtain ⟨t, r', rfl, ht4, hn4⟩ := opT_some (l := l') (by omega)
     have HLE := Lib.hid hle
     have HOO := Lib.hid (And.intro ho1 ho2)
     clear hR2 hle ho1 ho2
     go_wp2_with fail
     refine (next_any g d _ 4 _ HP.out).mono ?_; rintro e w3 ⟨m3, h3⟩
     rw [hn4] at h3
     obtain ⟨p3, v, rfl, tp, tq, tz, rfl⟩ := h3
     clear ht4
     have f3 := tok_f3 t.1 t.2.2.k t.2.2.n tp tq tz t.2.1 t.2.2.s w3
     unfold tokV
     go_wp2_with fail
     have M4 : Hid (Mod [g] w (w3.alloc (.cells #[nv tp, nv tq, nv tz] 28))) := Lib.hid ((HM.out.then m3).alloc _)
     have hbx0 : bx < w2.heap.size := (Array.getElem?_eq_some_iff.1 hb0.out).1
     have hgx : g ≠ bx := by omega
     have X4 : Hid ((w3.alloc (.cells #[nv tp, nv tq, nv tz] 28)).heap[bx]? = some (.cells #[nv (hdK x'), nv (hdV x').k, nv (hdV x').n, sv (hdV x').s, sv (hdN x'), sv (hdC x'), nv (hdO x' : Nat), .slice A n c, nv p, nv q, nv z] 59 (0, 0))) := Lib.hid (alloc_old' (m3.box hb0.out (by simp; omega)))
     have Z4 : Hid ((w3.alloc (.cells #[nv tp, nv tq, nv tz] 28)).heap[w.heap.size]? = some (.cells #[nv 0, nv 0, nv 0, sv [], sv [], sv [], nv 0, .slice none 0 0, nv 0, nv 0, nv 0] 59 (0, 0))) := Lib.hid (alloc_old' (m3.box HZ.out (by simp; omega)))
     have A4 : Hid ((w3.alloc (.cells #[nv tp, nv tq, nv tz] 28)).heap[w3.heap.size]? = some (.cells #[nv tp, nv tq, nv tz] 28 (0, 0))) := Lib.hid (alloc_at rfl)
     have P4 := Lib.hid (p3.alloc (.cells #[nv tp, nv tq, nv tz] 28))
     have T4 : Hid (ExR (w3.alloc (.cells #[nv tp, nv tq, nv tz] 28)) S' x' (exC x' (.slice A n c) p q z)) := Lib.hid (ExR.keep (fun b hb => by
      have h1 := HSS.out b hb
      rw [Below.heap_alloc _ _ _ (Nat.lt_of_lt_of_le h1.2.1 m3.size)]
      exact m3.block b h1.2.1 (by simp; omega)) _ _ HT.out)
     have S4 : Hid (∀ b, S' b → w.heap.size < b ∧ b < w3.heap.size ∧ b ≠ bx) := Lib.hid (fun b hb => by
      have h1 := HSS.out b hb
      have := m3.size
      exact ⟨h1.1, by omega, h1.2.2⟩)
     have hl3 : Hid (lenW w2 g = r'.length + 1) := Lib.hid (by rw [HP.out.lenW]; rfl)
     have hb3 : bx < w3.heap.size := Nat.lt_of_lt_of_le hbx0 m3.size
     clear m3 p3 HM HX HZ HT HSS HP hb0
     generalize hW4 : w3.alloc (.cells #[nv tp, nv tq, nv tz] 28) = w4 at *
     have h34 : w4.heap.size = w3.heap.size + 1 := by rw [← hW4]; simp
     clear hW4
     have hno2 := bind_no HR2.out HNO.out
     obtain ⟨n4, hn4e⟩ : ∃ n4, w4.heap.size = n4 := ⟨_, rfl⟩
     refine wp_region_last (l := [_, _, _, _, _, _, _, _]) [bx, w3.heap.size] (.read 0 (.read 1 (.read 2 (.read 3 (.read 6 (.call 4 (.call 5 (.read 7 .done)))))))) (by kernel_rfl) (by kernel_rfl) (by kernel_rfl) (fun _ _ d _ _ h => by cases d <;> exact h) ?_
     refine pwith (fun W hW => (cells11 ((hW bx (by simp)).trans X4.out))) (fun k1 => ?_)
     refine pwith (fun W hW => (cells3 ((hW w3.heap.size (by simp)).trans A4.out))) (fun k2 => ?_)
     repeat (first | (refine sreadxP rfl rfl ?_; apply Exists.intro; apply And.intro; (· (intro W hW; go_simp; try (first | with_reducible rfl | (rw [if_neg (by omega)]; try with_reducible rfl)))); simp only [Act.put, List.setIfInBounds_toArray, List.set_cons_zero, List.set_cons_succ]) | (refine pskip rfl rfl ?_; simp only [Act.put, List.setIfInBounds_toArray, List.set_cons_zero, List.set_cons_succ]))
     refine pcall rfl rfl (fun K hK => ?_)
     go_simp
     refine (HE.out f2 (by omega) g d o2 r' w4.drew (P4.out.next (Below.refl _ _).drew) hd hno2).mono ?_; rintro e w5 ⟨m5, h5⟩
     have M5 : Hid (Mod [g] w4 w5) := Lib.hid ((Mod.refl _ _).drew.then m5)
     have KB5 : Hid (KB [bx, w3.heap.size] w4.drew w5) := Lib.hid (fun b hb => m5.block b (by simp at hb; show b < w4.heap.size; omega) (by simp at hb ⊢; omega))
     clear m5
     cases hu : pExpr f2 o2 d r' with
     | oof => exact absurd hu hno2
     | bad =>
      rw [hu] at h5
      obtain ⟨er, ep, eq, ez, hne, rfl⟩ := h5
      have HN := Lib.hid hne
      clear hne
      have hq := (by have := HR2.out; rw [show (t :: r').tail = r' from rfl, hu] at this; exact this)
      simp only [bind_bad, bind_ok] at hq
      subst hq
      go_wp2_with fail
      simp only [lastQ]
      go_wp2_with fail
      exact ⟨rfl, M4.out.then M5.out, er, ep, eq, ez, HN.out, rfl⟩
     | ok y r2 =>
      rw [hu] at h5
      obtain ⟨p5, v, rfl, vs5, S5, rfl, hx5, hS5⟩ := h5
      have HR5 : Hid (pLoop f2 lvl d (.bin o1 x' y) r2 = RT) := Lib.hid (by have := HR2.out; rw [show (t :: r').tail = r' from rfl, hu] at this; exact this)
      obtain ⟨A5, n5, c5, a5, b5, e5, rfl⟩ := hx5.form
      have hv : Value.agg (exC y (.slice A5 n5 c5) a5 b5 e5).toArray = .agg #[nv (hdK y), nv (hdV y).k, nv (hdV y).n, sv (hdV y).s, sv (hdN y), sv (hdC y), nv (hdO y : Nat), .slice A5 n5 c5, nv a5, nv b5, nv e5] := rfl
      rw [hv]
      clear hv
      go_wp2_with fail
      refine hK.out _ _ KB5.out ?_
      clear hK K
      try simp only [Act.put, List.setIfInBounds_toArray, List.set_cons_zero, List.set_cons_succ]
      refine pcall rfl rfl (fun K hK => ?_)
      go_simp
      have hs5 := M5.out.size
      have X5 := M5.out.box X4.out (by simp; omega)
      have Z5 := M5.out.box Z4.out (by simp; omega)
      refine hK.out _ _ (fun b hb => Below.heap_alloc _ _ _ (by simp at hb; omega)) ?_
      clear hK K
      try simp only [Act.put, List.setIfInBounds_toArray, List.set_cons_zero, List.set_cons_succ]
      have R6 : Hid ((w5.alloc (.cells (exC x' (.slice A n c) p q z ++ exC y (.slice A5 n5 c5) a5 b5 e5).toArray 59)).heap[w5.heap.size]? = some (.cells (exC x' (.slice A n c) p q z ++ exC y (.slice A5 n5 c5) a5 b5 e5).toArray 59 (0, 0))) := Lib.hid (alloc_at rfl)
      have X6 : Hid ((w5.alloc (.cells (exC x' (.slice A n c) p q z ++ exC y (.slice A5 n5 c5) a5 b5 e5).toArray 59)).heap[bx]? = _) := Lib.hid (alloc_old' X5)
      have Z6 : Hid ((w5.alloc (.cells (exC x' (.slice A n c) p q z ++ exC y (.slice A5 n5 c5) a5 b5 e5).toArray 59)).heap[w.heap.size]? = _) := Lib.hid (alloc_old' Z5)
      have P6 := Lib.hid (p5.alloc (.cells (exC x' (.slice A n c) p q z ++ exC y (.slice A5 n5 c5) a5 b5 e5).toArray 59))
      have M6 : Hid (Mod [g] w (w5.alloc (.cells (exC x' (.slice A n c) p q z ++ exC y (.slice A5 n5 c5) a5 b5 e5).toArray 59))) := Lib.hid ((M4.out.then M5.out).alloc _)
      have TX6 : Hid (ExR (w5.alloc (.cells (exC x' (.slice A n c) p q z ++ exC y (.slice A5 n5 c5) a5 b5 e5).toArray 59)) S' x' (exC x' (.slice A n c) p q z)) := Lib.hid (ExR.keep (fun b hb => by
       have h1 := S4.out b hb
       rw [Below.heap_alloc _ _ _ (by omega)]
       exact M5.out.block b (by omega) (by simp; omega)) _ _ T4.out)
      have TY6 : Hid (ExR (w5.alloc (.cells (exC x' (.slice A n c) p q z ++ exC y (.slice A5 n5 c5) a5 b5 e5).toArray 59)) S5 y (exC y (.slice A5 n5 c5) a5 b5 e5)) := Lib.hid (ExR.keep (fun b hb => Below.heap_alloc _ _ _ (hS5 b hb).2) _ _ hx5)
      have S6 := Lib.hid hS5
      have hz6 : (w5.alloc (.cells (exC x' (.slice A n c) p q z ++ exC y (.slice A5 n5 c5) a5 b5 e5).toArray 59)).heap.size = w5.heap.size + 1 := by simp
      have he6 : (Obj.cells (exC x' (.slice A n c) p q z ++ exC y (.slice A5 n5 c5) a5 b5 e5).toArray 59) = Obj.cells #[nv (hdK x'), nv (hdV x').k, nv (hdV x').n, sv (hdV x').s, sv (hdN x'), sv (hdC x'), nv (hdO x' : Nat), .slice A n c, nv p, nv q, nv z, nv (hdK y), nv (hdV y).k, nv (hdV y).n, sv (hdV y).s, sv (hdN y), sv (hdC y), nv (hdO y : Nat), .slice A5 n5 c5, nv a5, nv b5, nv e5] 59 := rfl
      rw [← he6]
      clear he6 p5 hS5 hx5 X5 Z5 KB5
      generalize w5.alloc (.cells (exC x' (.slice A n c) p q z ++ exC y (.slice A5 n5 c5) a5 b5 e5).toArray 59) = w6 at *
      repeat (first | (refine sreadxP rfl rfl ?_; apply Exists.intro; apply And.intro; (· (intro W hW; go_simp; try (first | with_reducible rfl | (rw [if_neg (by omega)]; try with_reducible rfl)))); simp only [Act.put, List.setIfInBounds_toArray, List.set_cons_zero, List.set_cons_succ]) | (refine pskip rfl rfl ?_; simp only [Act.put, List.setIfInBounds_toArray, List.set_cons_zero, List.set_cons_succ]))
      refine pdone ?_
      refine last_step rfl (fun K hK => ?_)
      obtain ⟨⟨⟨⟨fr0, fr1⟩, fr2, fr3⟩, ⟨fr4, fr5⟩, fr6, fr7⟩, ⟨fr8, fr9⟩, fr10⟩ := frozen11 X6.out
      obtain ⟨⟨⟨⟨y0, y1⟩, y2, y3⟩, ⟨y4, y5⟩, y6, y7⟩, ⟨y8, y9⟩, y10⟩ := cells11 X6.out
      go_simp
      refine hK.out _ _ ?_
      clear hK K
      have hSx : ¬ ((S' bx ∨ S5 bx) ∨ bx = w5.heap.size) := by
       rintro ((hh | hh) | hh)
       ·exact (S4.out _ hh).2.2 rfl
       ·have := (S6.out _ hh).1
        have h8 : w4.drew.heap.size = w4.heap.size := rfl
        omega
       ·omega
      obtain ⟨w7, hw7⟩ : ∃ w7, w7 = set11 w6 bx (nv 8) (nv 0) (nv 0) (sv []) (sv []) (sv []) (nv (o1 : Nat)) (.slice (some ⟨w5.heap.size, 0, none⟩) 2 2) (nv tp) (nv tq) (nv tz) := ⟨_, rfl⟩
      have B7 : Hid (w7.heap[bx]? = some (.cells (exC (.bin o1 x' y) (.slice (some ⟨w5.heap.size, 0, none⟩) 2 2) tp tq tz).toArray 59 (0, 0))) := Lib.hid (by
       rw [hw7]
       exact set11_box (vs := exC x' (.slice A n c) p q z) X6.out rfl)
      have hk7 : ∀ k, k ≠ bx → w7.heap[k]? = w6.heap[k]? := fun k hk => by
       rw [hw7]
       exact set11_other hk
      have hz7 : w7.heap.size = w6.heap.size := by rw [hw7]; exact set11_size
      have P7 : Hid (Ps w7 g d r2) := Lib.hid (P6.out.keep fun b hb => hk7 b (by omega))
      have M7 : Hid (Mod [g] w w7) := Lib.hid (M6.out.trans (cs := [bx]) (by rw [hw7]; exact set11_mod) (fun x hx => .inr (by simp at hx; omega)))
      have Z7 : Hid (w7.heap[w.heap.size]? = _) := Lib.hid ((hk7 _ (by omega)).trans Z6.out)
      have TX7 := Lib.hid (ExR.mono (S' := fun b => (S' b ∨ S5 b) ∨ b = w5.heap.size) (fun b hb => .inl (.inl hb)) _ _ (ExR.keep (w' := w7) (fun b hb => hk7 b (S4.out b hb).2.2) _ _ TX6.out))
      have TY7 := Lib.hid (ExR.mono (S' := fun b => (S' b ∨ S5 b) ∨ b = w5.heap.size) (fun b hb => .inl (.inr hb)) _ _ (ExR.keep (w' := w7) (fun b hb => hk7 b (fun e => hSx (by rw [← e]; exact .inl (.inr hb)))) _ _ TY6.out))
      have T7 : Hid (ExR w7 (fun b => (S' b ∨ S5 b) ∨ b = w5.heap.size) (.bin o1 x' y) (exC (.bin o1 x' y) (.slice (some ⟨w5.heap.size, 0, none⟩) 2 2) tp tq tz)) := Lib.hid (ExR.two rfl rfl (Row.of_block ((hk7 _ (by omega)).trans R6.out) (.inr rfl) rfl (by omega) (by omega)) TX7.out TY7.out)
      have S7 : Hid (∀ b, ((S' b ∨ S5 b) ∨ b = w5.heap.size) → w.heap.size < b ∧ b < w7.heap.size ∧ b ≠ bx) := Lib.hid (fun b hb => by
       refine ⟨?_, ?_, fun e => hSx (by rw [← e]; exact hb)⟩
       ·rcases hb with (hb | hb) | hb
        ·exact (S4.out b hb).1
        ·have := (S6.out b hb).1
         have h8 : w4.drew.heap.size = w4.heap.size := rfl
         omega
        ·omega
       ·rcases hb with (hb | hb) | hb
        ·have := (S4.out b hb).2.1; omega
        ·have := (S6.out b hb).2; omega
        ·omega)
      have hlf : r2.length ≤ r'.length := by
       have := (expr_left f2).1 o2 d r'
       rw [hu] at this
       exact this
      have hl7 := P7.out.lenW
      have hl3' := hl3.out
      clear X6 Z6 R6 TX6 TY6 S6 M6 P6 TX7 TY7 fr0 fr1 fr2 fr3 fr4 fr5 fr6 fr7 fr8 fr9 fr10 y0 y1 y2 y3 y4 y5 y6 y7 y8 y9 y10
      unfold set11 nv sv at hw7
      rw [← hw7]
      clear hw7
      go_roundw
      case rel => exact ⟨_, _, _, _, _, _, _, _, _, _, _, _, _, _, _, _, _, _, _, _, _, _, _, ⟨f2, .bin o1 x' y, r2, _, _, by omega, HR5, B7, T7, S7, P7, M7, Z7⟩, rfl⟩
      case measure => omega
end Go.Proofs.YtnbmpfdffoidaaaGreatDoor.Y
namespace Go.Proofs.YtnbmpfdffoidaaaGreatDoor.Y
open Go.RowKit O V S X
def G1 (lo b1 : Nat) (cs : Array Value) (y : Ex) (w' : World) : Prop := ∃ us S rb, w'.heap[b1]? = some (.cells (cs.setIfInBounds 7 (.slice (some ⟨rb, 0, none⟩) 1 1)) 59 (0, 0)) ∧ w'.heap[rb]? = some (.cells us.toArray 59 (0, 0)) ∧ ExR w' S y us ∧ (∀ b, S b → lo ≤ b ∧ b < w'.heap.size) ∧ lo ≤ rb
theorem G1.more {lo lo' b1 : Nat} {cs : Array Value} {y : Ex} {w : World} (h : G1 lo b1 cs y w) (hl : lo' ≤ lo) : G1 lo' b1 cs y w := by
 obtain ⟨us, S, rb, e1, e2, e3, e4, e5⟩ := h
 exact ⟨us, S, rb, e1, e2, e3, fun b hb => ⟨Nat.le_trans hl (e4 b hb).1, (e4 b hb).2⟩, Nat.le_trans hl e5⟩
theorem Out.imp {α : Type} {bs : List Nat} {g d : Nat} {w : World} {R : Res α} {good good' : α → World → Value → Prop} {e : Ending} {w' : World} (h : Out bs g d w R good e w') (hi : ∀ a w' v, good a w' v → good' a w' v) : Out bs g d w R good' e w' := by
 refine ⟨h.1, ?_⟩
 have h2 := h.2
 cases R with
 | oof => exact h2
 | bad => exact h2
 | ok a l =>
  obtain ⟨p, v, e, hg⟩ := h2
  exact ⟨p, v, e, hi _ _ _ hg⟩
theorem unary1_any (f : Nat) (hU : UC f) (g d b0 b1 : Nat) (l : List Tok) (cs : Array Value) (w : World) (h : Ps w g d l) (hd : d ≤ 16) (hno : pUnary f d l ≠ .oof) (h0 : w.heap[b0]? = some (.cells #[.pointer (some ⟨g, 0, none⟩)] 51 (0, 0))) (h1 : w.heap[b1]? = some (.cells cs 59 (0, 0))) (hc : 7 < cs.size) (hg1 : g < b1) :
  Calls Tryz.prog 181 #[.pointer (some ⟨b0, 0, none⟩), .pointer (some ⟨b1, 0, none⟩)] w (Out [g, b1] g d w (pUnary f d l) fun y w' v => v = .tuple #[] ∧ G1 w.heap.size b1 cs y w') := by
 have HU := Lib.hid (hU g d l w h hd hno)
 have hlt := h.lt
 have hlt1 : b1 < w.heap.size := (Array.getElem?_eq_some_iff.1 h1).1
 have H1 := Lib.hid h1
 have x0 : w.cell? ⟨b0, 0, none⟩ = some (.pointer (some ⟨g, 0, none⟩)) := by rw [Lib.cell_of_heap h0]; rfl
 obtain ⟨RT, hRT⟩ : ∃ RT, pUnary f d l = RT := ⟨_, rfl⟩
 rw [hRT] at hno ⊢
 have HRT := Lib.hid hRT
 clear hU h h0 h1 hno hRT
 go_enter Tryz.func181, Tryz.ntmps181
 go_wp2_with fail
 refine HU.out.mono ?_; rintro e w1 ⟨m1, h1⟩
 rw [HRT.out] at h1
 have M1 := Lib.hid (m1.more (cs := [g, b1]) (fun x hx => .inl (by simp at hx; simp [hx])))
 have X1 := Lib.hid (m1.box H1.out (by simp; omega))
 have hs1 := m1.size
 clear m1
 cases RT with
 | oof => exact h1.elim
 | bad =>
  obtain ⟨er, ep, eq, ez, hne, rfl⟩ := h1
  have HN := Lib.hid hne
  clear hne
  go_wp2_with fail
  exact ⟨rfl, M1.out, er, ep, eq, ez, HN.out, rfl⟩
 | ok y r =>
  obtain ⟨p1, v, rfl, vs, S, rfl, hx, hS⟩ := h1
  obtain ⟨A, n, c, p, q, z, rfl⟩ := hx.form
  have P1 := Lib.hid p1
  have X := Lib.hid hx
  have S1 := Lib.hid hS
  have hv : Value.agg (exC y (.slice A n c) p q z).toArray = .agg #[nv (hdK y), nv (hdV y).k, nv (hdV y).n, sv (hdV y).s, sv (hdN y), sv (hdC y), nv (hdO y : Nat), .slice A n c, nv p, nv q, nv z] := rfl
  rw [hv]
  have hcell : ∃ v, w1.cell? ⟨b1, 7, none⟩ = some v := ⟨cs[7], by rw [Lib.cell_of_heap X1.out]; simp [hc]⟩
  obtain ⟨v7, hcell⟩ := hcell
  have hfr : w1.frozen? ⟨b1, 7, none⟩ = false := Lib.frozen_of_heap X1.out 7
  have hb1 : b1 < w1.heap.size := by omega
  clear hv p1 hx hS
  go_wp2_with fail
  go_end0
  refine ⟨(M1.out.set (.inl (by simp)) _).alloc _, (P1.out.set hg1 _).alloc _, _, rfl, rfl, exC y (.slice A n c) p q z, S, w1.heap.size, alloc_old' (heap_set X1.out _), alloc_at (by simp), ExR.keep (fun b hb => ?_) _ _ X.out, fun b hb => ?_, hs1⟩
  ·have := S1.out b hb
   rw [Below.heap_alloc _ _ _ (by simp; omega), Below.heap_setCell _ _ _ _ (by simp only; omega)]
  ·have := S1.out b hb
   simp
   omega
def zeroX : Array Value := #[nv 0, nv 0, nv 0, sv [], sv [], sv [], nv 0, .slice none 0 0, nv 0, nv 0, nv 0]
theorem pUnary_succ (f d : Nat) (l : List Tok) : pUnary (f + 1) d l = if isT l [33] then (if d = 16 then .bad else (pUnary f (d + 1) l.tail).bind fun x r => .ok (.un 13 x) r) else if isT l [45] then (if d = 16 then .bad else (pUnary f (d + 1) l.tail).bind fun x r => .ok (.un 14 x) r) else pOperand f d l := by rw [pUnary]
theorem unary_step (f : Nat) (hU : UC f) (hO : OC f) : UC (f + 1) := by
  intro g d l w h hd hno
  obtain ⟨RT, hRT⟩ : ∃ RT, pUnary (f + 1) d l = RT := ⟨_, rfl⟩
  rw [hRT] at hno ⊢
  rw [pUnary_succ] at hRT
  have HRT := Lib.hid hRT
  have HNO := Lib.hid hno
  have HS := Lib.hid h
  have hlt := h.lt
  clear hRT hno h
  have HU := Lib.hid hU
  have HO := Lib.hid hO
  clear hU hO
  have hmf : ∀ (fn : Fn) (first cap : Array Value) (w : World), (Instr.makeFunc fn first cap).run Tryz.prog w = .ok (.func fn first cap) w := fun _ _ _ _ => rfl
  have HA : Hid (Below w.heap.size w ((w.alloc (.cells #[.pointer (some ⟨g, 0, none⟩)] 51)).alloc (.cells #[nv 0, nv 0, nv 0, sv [], sv [], sv [], nv 0, .slice none 0 0, nv 0, nv 0, nv 0] 59))) := Lib.hid (by repeat (first | exact Below.refl _ _ | refine Below.alloc ?_ (by simp <;> omega) _))
  have HB0 : Hid (((w.alloc (.cells #[.pointer (some ⟨g, 0, none⟩)] 51)).alloc (.cells #[nv 0, nv 0, nv 0, sv [], sv [], sv [], nv 0, .slice none 0 0, nv 0, nv 0, nv 0] 59)).heap[w.heap.size]? = some (.cells #[.pointer (some ⟨g, 0, none⟩)] 51 (0, 0))) := Lib.hid (alloc_old' (alloc_at rfl))
  have HB1 : Hid (((w.alloc (.cells #[.pointer (some ⟨g, 0, none⟩)] 51)).alloc (.cells #[nv 0, nv 0, nv 0, sv [], sv [], sv [], nv 0, .slice none 0 0, nv 0, nv 0, nv 0] 59)).heap[w.heap.size + 1]? = some (.cells #[nv 0, nv 0, nv 0, sv [], sv [], sv [], nv 0, .slice none 0 0, nv 0, nv 0, nv 0] 59 (0, 0))) := Lib.hid (alloc_at (by simp))
  have hz2 : ((w.alloc (.cells #[.pointer (some ⟨g, 0, none⟩)] 51)).alloc (.cells #[nv 0, nv 0, nv 0, sv [], sv [], sv [], nv 0, .slice none 0 0, nv 0, nv 0, nv 0] 59)).heap.size = w.heap.size + 2 := by simp
  cases h33 : isT l [33] with
  | false =>
    have HR1 := HRT.out
    rw [h33] at HR1
    simp only [Bool.false_eq_true, if_false] at HR1
    cases h45 : isT l [45] with
    | false =>
      rw [h45] at HR1
      simp only [Bool.false_eq_true, if_false] at HR1
      have hno1 := HNO.out
      rw [← HR1] at hno1
      have HR2 := Lib.hid HR1
      clear HR1 HRT
      go_enter Tryz.func176, Tryz.ntmps176
      go_wp2_with fail
      have HP2 := Lib.hid (HS.out.next HA.out)
      obtain ⟨w2, hw2⟩ : ∃ w2, ((w.alloc (.cells #[.pointer (some ⟨g, 0, none⟩)] 51)).alloc (.cells #[nv 0, nv 0, nv 0, sv [], sv [], sv [], nv 0, .slice none 0 0, nv 0, nv 0, nv 0] 59)) = w2 := ⟨_, rfl⟩
      rw [hw2] at HA HB0 HB1 hz2 HP2 ⊢
      clear hw2
      have q0 : w2.cell? ⟨w.heap.size, 0, none⟩ = some (.pointer (some ⟨g, 0, none⟩)) := by rw [Lib.cell_of_heap HB0.out]; rfl
      refine (is_any g d l [33] _ HP2.out).mono ?_; rintro e w3 ⟨rfl, rfl⟩
      rw [h33]
      go_wp2_with fail
      refine (is_any g d l [45] _ HP2.out).mono ?_; rintro e w4 ⟨rfl, rfl⟩
      rw [h45]
      go_wp2_with fail
      refine (HO.out g d l _ HP2.out hd hno1).mono ?_; rintro e w5 ⟨m5, h5⟩
      rw [HR2.out] at h5
      have hb1 := m5.box HB1.out (by simp; omega)
      obtain ⟨⟨⟨⟨y0, y1⟩, y2, y3⟩, ⟨y4, y5⟩, y6, y7⟩, ⟨y8, y9⟩, y10⟩ := cells11 hb1
      obtain ⟨⟨⟨⟨fr0, fr1⟩, fr2, fr3⟩, ⟨fr4, fr5⟩, fr6, fr7⟩, ⟨fr8, fr9⟩, fr10⟩ := frozen11 hb1
      have M5 : Hid (Mod [g] w w5) := Lib.hid ((Mod.of_below HA.out).then m5)
      clear m5 hno1 HR2
      cases RT with
      | oof => exact h5.elim
      | bad =>
        obtain ⟨er, ep, eq, ez, hne, rfl⟩ := h5
        have HN := Lib.hid hne
        clear hne
        go_wp2_with fail
        exact ⟨rfl, M5.out, er, ep, eq, ez, HN.out, rfl⟩
      | ok y r =>
        obtain ⟨p5, v, rfl, vs, S, rfl, hx, hS⟩ := h5
        obtain ⟨A, n, c, p, q, z, rfl⟩ := hx.form
        have P5 := Lib.hid p5
        have X := Lib.hid hx
        have S5 := Lib.hid hS
        have hv : Value.agg (exC y (.slice A n c) p q z).toArray = .agg #[nv (hdK y), nv (hdV y).k, nv (hdV y).n, sv (hdV y).s, sv (hdN y), sv (hdC y), nv (hdO y : Nat), .slice A n c, nv p, nv q, nv z] := rfl
        rw [hv]
        clear hv p5 hx hS hb1
        go_wp2_with fail
        refine bodyPost_ret (v := .agg #[nv (hdK y), nv (hdV y).k, nv (hdV y).n, sv (hdV y).s, sv (hdN y), sv (hdC y), nv (hdO y : Nat), .slice A n c, nv p, nv q, nv z]) (by simp [results, Tryz.results176, go_sem, y0, y1, y2, y3, y4, y5, y6, y7, y8, y9, y10]) rfl ?_
        have hns : ¬ S (w.heap.size + 1) := fun hh => by have := S5.out _ hh; omega
        refine ⟨?_, ?_, _, rfl, exC y (.slice A n c) p q z, S, rfl, ?_, ?_⟩
        · repeat (first | (with_reducible exact M5.out) | refine Mod.set ?_ (.inr (Nat.le_succ _)) _)
        · repeat (first | (with_reducible exact P5.out) | refine Ps.set ?_ (Nat.lt_succ_of_lt hlt) _)
        · repeat (first | (with_reducible exact X.out) | refine ExR.set ?_ hns _)
        · intro b hb
          have := S5.out b hb
          simp
          omega
    | true =>
      rw [h45] at HR1
      simp only [if_true] at HR1
      have HR2 := Lib.hid HR1
      have hi2 := h45
      clear HR1 HRT
      go_enter Tryz.func176, Tryz.ntmps176
      go_wp2_with fail
      have HP2 := Lib.hid (HS.out.next HA.out)
      obtain ⟨w2, hw2⟩ : ∃ w2, ((w.alloc (.cells #[.pointer (some ⟨g, 0, none⟩)] 51)).alloc (.cells #[nv 0, nv 0, nv 0, sv [], sv [], sv [], nv 0, .slice none 0 0, nv 0, nv 0, nv 0] 59)) = w2 := ⟨_, rfl⟩
      rw [hw2] at HA HB0 HB1 hz2 HP2 ⊢
      clear hw2
      have q0 : w2.cell? ⟨w.heap.size, 0, none⟩ = some (.pointer (some ⟨g, 0, none⟩)) := by rw [Lib.cell_of_heap HB0.out]; rfl
      refine (is_any g d l [33] _ HP2.out).mono ?_; rintro e w3 ⟨rfl, rfl⟩
      rw [h33]
      go_wp2_with fail
      refine (is_any g d l [45] _ HP2.out).mono ?_; rintro e w4 ⟨rfl, rfl⟩
      rw [h45]
      go_wp2_with fail
      refine (here_any g d l _ HP2.out).mono ?_; rintro e w5 ⟨⟨p, q, z, rfl⟩, b5⟩
      have hb1 := box_next HB1.out b5
      obtain ⟨⟨⟨⟨y0, y1⟩, y2, y3⟩, ⟨y4, y5⟩, y6, y7⟩, ⟨y8, y9⟩, y10⟩ := cells11 hb1
      obtain ⟨⟨⟨⟨fr0, fr1⟩, fr2, fr3⟩, ⟨fr4, fr5⟩, fr6, fr7⟩, ⟨fr8, fr9⟩, fr10⟩ := frozen11 hb1
      have q05 : w5.cell? ⟨w.heap.size, 0, none⟩ = some (.pointer (some ⟨g, 0, none⟩)) := by rw [Lib.cell_of_heap (box_next HB0.out b5)]; rfl
      have HB05 := Lib.hid (box_next HB0.out b5)
      have HP5 := Lib.hid (HP2.out.next b5)
      have HA5 := Lib.hid (bthen HA.out b5)
      have hs5 := b5.size
      have HB15 := Lib.hid hb1
      clear b5 q0 HB0 HB1 HP2 HA hb1
      go_wp2_with fail
      obtain ⟨w6, hw6⟩ : ∃ w6, w6 = set11 w5 (w.heap.size + 1) (nv 7) (nv 0) (nv 0) (sv []) (sv []) (sv []) (nv 14) (.slice none 0 0) (nv p) (nv q) (nv z) := ⟨_, rfl⟩
      have HB6 : Hid (w6.heap[w.heap.size + 1]? = some (.cells #[nv 7, nv 0, nv 0, sv [], sv [], sv [], nv 14, .slice none 0 0, nv p, nv q, nv z] 59 (0, 0))) := Lib.hid (by
        rw [hw6]
        exact set11_box (vs := [nv 0, nv 0, nv 0, sv [], sv [], sv [], nv 0, .slice none 0 0, nv 0, nv 0, nv 0]) HB15.out rfl)
      have hk6 : ∀ k, k ≠ w.heap.size + 1 → w6.heap[k]? = w5.heap[k]? := fun k hk => by
        rw [hw6]
        exact set11_other hk
      have hz6 : w6.heap.size = w5.heap.size := by rw [hw6]; exact set11_size
      have HP6 := Lib.hid (HP5.out.keep (w' := w6) fun b hb => hk6 b (by omega))
      have HA6 : Hid (Mod [g] w w6) := Lib.hid ((Mod.of_below HA5.out).trans (cs := [w.heap.size + 1]) (by rw [hw6]; exact set11_mod) (fun x hx => .inr (by simp at hx; omega)))
      have HB06 := Lib.hid ((hk6 w.heap.size (by omega)).trans HB05.out)
      unfold set11 nv sv at hw6
      rw [← hw6]
      clear hw6 y0 y1 y2 y3 y4 y5 y6 y7 y8 y9 y10 fr0 fr1 fr2 fr3 fr4 fr5 fr6 fr7 fr8 fr9 fr10 q05 HB05 HB15 HP5 HA5 hk6
      have hl : l ≠ [] := by rintro rfl; cases hi2
      have hc1 := Tryz.call181
      have hRR : (if d = 16 then Res.bad else pUnary f (d + 1) l.tail).bind (fun x r => Res.ok (Ex.un 14 x) r) = RT := by
        have := HR2.out
        split
        · rename_i h16; rw [if_pos h16] at this; exact this
        · rename_i h16; rw [if_neg h16] at this; exact this
      have HRR := Lib.hid hRR
      have hnn : d < 16 → pUnary f (d + 1) l.tail ≠ .oof := fun h16 => by
        have := HR2.out
        rw [if_neg (by omega)] at this
        exact bind_no this HNO.out
      have HNN := Lib.hid hnn
      clear hRR hnn
      refine (within_any (α := Ex) g d l 181 #[.pointer (some ⟨w.heap.size, 0, none⟩), .pointer (some ⟨w.heap.size + 1, 0, none⟩)] [g, w.heap.size + 1] (pUnary f (d + 1) l.tail) (G1 w6.heap.size (w.heap.size + 1) #[nv 7, nv 0, nv 0, sv [], sv [], sv [], nv 14, .slice none 0 0, nv p, nv q, nv z]) w6 HP6.out hl hd (by simp) hc1 (fun hd2 W mW pW => ?_)).mono ?_
      · refine (unary1_any f HU.out g (d + 1) w.heap.size (w.heap.size + 1) l.tail #[nv 7, nv 0, nv 0, sv [], sv [], sv [], nv 14, .slice none 0 0, nv p, nv q, nv z] W pW hd2 (HNN.out hd2) (mW.box HB06.out (by simp; omega)) (mW.box HB6.out (by simp; omega)) (by simp) (by omega)).mono fun e w' ho => ho.imp fun y W' v hg => ⟨hg.1, hg.2.more mW.size⟩
      rintro e w7 ⟨m7, h7⟩
      generalize (if d = 16 then Res.bad else pUnary f (d + 1) l.tail) = R7 at *
      have M7 : Hid (Mod [g] w w7) := Lib.hid (HA6.out.trans m7 (fun x hx => by simp at hx; rcases hx with rfl | rfl; · exact .inl (by simp)
                                                                                · exact .inr (by omega)))
      clear m7
      cases R7 with
      | oof => exact h7.elim
      | bad =>
        obtain ⟨er, ep, eq, ez, hne, rfl⟩ := h7
        have HN := Lib.hid hne
        clear hne
        have hq := HRR.out
        simp only [bind_bad, bind_ok] at hq
        subst hq
        go_wp2_with fail
        exact ⟨rfl, M7.out, er, ep, eq, ez, HN.out, rfl⟩
      | ok y r =>
        obtain ⟨p7, v, rfl, rfl, W7, ⟨us, S, rb, e1, e2, e3, e4, e5⟩, m8⟩ := h7
        have hq := HRR.out
        simp only [bind_ok] at hq
        subst hq
        have P7 := Lib.hid p7
        have hrb : rb < W7.heap.size := (Array.getElem?_eq_some_iff.1 e2).1
        have HB7 : Hid (w7.heap[w.heap.size + 1]? = some (.cells #[nv 7, nv 0, nv 0, sv [], sv [], sv [], nv 14, .slice (some ⟨rb, 0, none⟩) 1 1, nv p, nv q, nv z] 59 (0, 0))) := Lib.hid (m8.box e1 (by simp; omega))
        have R7 := Lib.hid (m8.box e2 (by simp; omega))
        have X7 : Hid (ExR w7 S y us) := Lib.hid (ExR.keep (fun b hb => m8.block b (e4 b hb).2 (by have := e4 b hb; simp; omega)) _ _ e3)
        have S7 : Hid (∀ b, S b → w6.heap.size ≤ b ∧ b < w7.heap.size) := Lib.hid (fun b hb => ⟨(e4 b hb).1, Nat.lt_of_lt_of_le (e4 b hb).2 m8.size⟩)
        have hrb7 : rb < w7.heap.size := Nat.lt_of_lt_of_le hrb m8.size
        have hul := ExR.size _ _ e3
        clear p7 e1 e2 e3 e4 m8 hrb
        obtain ⟨⟨⟨⟨y0, y1⟩, y2, y3⟩, ⟨y4, y5⟩, y6, y7⟩, ⟨y8, y9⟩, y10⟩ := cells11 HB7.out
        obtain ⟨⟨⟨⟨fr0, fr1⟩, fr2, fr3⟩, ⟨fr4, fr5⟩, fr6, fr7⟩, ⟨fr8, fr9⟩, fr10⟩ := frozen11 HB7.out
        go_wp2_with fail
        refine bodyPost_ret (v := .agg #[nv 7, nv 0, nv 0, sv [], sv [], sv [], nv 14, .slice (some ⟨rb, 0, none⟩) 1 1, nv p, nv q, nv z]) (by simp [results, Tryz.results176, go_sem, y0, y1, y2, y3, y4, y5, y6, y7, y8, y9, y10]) rfl ?_
        have hns : ¬ (S (w.heap.size + 1) ∨ w.heap.size + 1 = rb) := by
          rintro (hh | hh)
          · have := S7.out _ hh; omega
          · omega
        refine ⟨?_, ?_, _, rfl, exC (.un 14 y) (.slice (some ⟨rb, 0, none⟩) 1 1) p q z, fun b => S b ∨ b = rb, rfl, ?_, ?_⟩
        · repeat (first | (with_reducible exact M7.out) | refine Mod.set ?_ (.inr (Nat.le_succ _)) _)
        · repeat (first | (with_reducible exact P7.out) | refine Ps.set ?_ (Nat.lt_succ_of_lt hlt) _)
        · have hX : ExR w7 (fun b => S b ∨ b = rb) (.un 14 y) (exC (.un 14 y) (.slice (some ⟨rb, 0, none⟩) 1 1) p q z) := ExR.one rfl rfl (Row.of_block R7.out (.inr rfl) (by rw [hul]) (by omega) (by omega)) (ExR.mono (fun b hb => .inl hb) _ _ X7.out)
          repeat (first | (with_reducible exact hX) | refine ExR.set ?_ hns _)
        · intro b hb
          have : w.heap.size ≤ b ∧ b < w7.heap.size := by
            rcases hb with hb | hb
            · have := S7.out b hb; omega
            · omega
          simp
          omega
  | true =>
    have HR1 := HRT.out
    rw [h33] at HR1
    simp only [if_true] at HR1
    have HR2 := Lib.hid HR1
    have hi2 := h33
    clear HR1 HRT
    go_enter Tryz.func176, Tryz.ntmps176
    go_wp2_with fail
    have HP2 := Lib.hid (HS.out.next HA.out)
    obtain ⟨w2, hw2⟩ : ∃ w2, ((w.alloc (.cells #[.pointer (some ⟨g, 0, none⟩)] 51)).alloc (.cells #[nv 0, nv 0, nv 0, sv [], sv [], sv [], nv 0, .slice none 0 0, nv 0, nv 0, nv 0] 59)) = w2 := ⟨_, rfl⟩
    rw [hw2] at HA HB0 HB1 hz2 HP2 ⊢
    clear hw2
    have q0 : w2.cell? ⟨w.heap.size, 0, none⟩ = some (.pointer (some ⟨g, 0, none⟩)) := by rw [Lib.cell_of_heap HB0.out]; rfl
    refine (is_any g d l [33] _ HP2.out).mono ?_; rintro e w4 ⟨rfl, rfl⟩
    rw [h33]
    go_wp2_with fail
    refine (here_any g d l _ HP2.out).mono ?_; rintro e w5 ⟨⟨p, q, z, rfl⟩, b5⟩
    have hb1 := box_next HB1.out b5
    obtain ⟨⟨⟨⟨y0, y1⟩, y2, y3⟩, ⟨y4, y5⟩, y6, y7⟩, ⟨y8, y9⟩, y10⟩ := cells11 hb1
    obtain ⟨⟨⟨⟨fr0, fr1⟩, fr2, fr3⟩, ⟨fr4, fr5⟩, fr6, fr7⟩, ⟨fr8, fr9⟩, fr10⟩ := frozen11 hb1
    have q05 : w5.cell? ⟨w.heap.size, 0, none⟩ = some (.pointer (some ⟨g, 0, none⟩)) := by rw [Lib.cell_of_heap (box_next HB0.out b5)]; rfl
    have HB05 := Lib.hid (box_next HB0.out b5)
    have HP5 := Lib.hid (HP2.out.next b5)
    have HA5 := Lib.hid (bthen HA.out b5)
    have hs5 := b5.size
    have HB15 := Lib.hid hb1
    clear b5 q0 HB0 HB1 HP2 HA hb1
    go_wp2_with fail
    obtain ⟨w6, hw6⟩ : ∃ w6, w6 = set11 w5 (w.heap.size + 1) (nv 7) (nv 0) (nv 0) (sv []) (sv []) (sv []) (nv 13) (.slice none 0 0) (nv p) (nv q) (nv z) := ⟨_, rfl⟩
    have HB6 : Hid (w6.heap[w.heap.size + 1]? = some (.cells #[nv 7, nv 0, nv 0, sv [], sv [], sv [], nv 13, .slice none 0 0, nv p, nv q, nv z] 59 (0, 0))) := Lib.hid (by
      rw [hw6]
      exact set11_box (vs := [nv 0, nv 0, nv 0, sv [], sv [], sv [], nv 0, .slice none 0 0, nv 0, nv 0, nv 0]) HB15.out rfl)
    have hk6 : ∀ k, k ≠ w.heap.size + 1 → w6.heap[k]? = w5.heap[k]? := fun k hk => by
      rw [hw6]
      exact set11_other hk
    have hz6 : w6.heap.size = w5.heap.size := by rw [hw6]; exact set11_size
    have HP6 := Lib.hid (HP5.out.keep (w' := w6) fun b hb => hk6 b (by omega))
    have HA6 : Hid (Mod [g] w w6) := Lib.hid ((Mod.of_below HA5.out).trans (cs := [w.heap.size + 1]) (by rw [hw6]; exact set11_mod) (fun x hx => .inr (by simp at hx; omega)))
    have HB06 := Lib.hid ((hk6 w.heap.size (by omega)).trans HB05.out)
    unfold set11 nv sv at hw6
    rw [← hw6]
    clear hw6 y0 y1 y2 y3 y4 y5 y6 y7 y8 y9 y10 fr0 fr1 fr2 fr3 fr4 fr5 fr6 fr7 fr8 fr9 fr10 q05 HB05 HB15 HP5 HA5 hk6
    have hl : l ≠ [] := by rintro rfl; cases hi2
    have hc1 := Tryz.call181
    have hRR : (if d = 16 then Res.bad else pUnary f (d + 1) l.tail).bind (fun x r => Res.ok (Ex.un 13 x) r) = RT := by
      have := HR2.out
      split
      · rename_i h16; rw [if_pos h16] at this; exact this
      · rename_i h16; rw [if_neg h16] at this; exact this
    have HRR := Lib.hid hRR
    have hnn : d < 16 → pUnary f (d + 1) l.tail ≠ .oof := fun h16 => by
      have := HR2.out
      rw [if_neg (by omega)] at this
      exact bind_no this HNO.out
    have HNN := Lib.hid hnn
    clear hRR hnn
    refine (within_any (α := Ex) g d l 181 #[.pointer (some ⟨w.heap.size, 0, none⟩), .pointer (some ⟨w.heap.size + 1, 0, none⟩)] [g, w.heap.size + 1] (pUnary f (d + 1) l.tail) (G1 w6.heap.size (w.heap.size + 1) #[nv 7, nv 0, nv 0, sv [], sv [], sv [], nv 13, .slice none 0 0, nv p, nv q, nv z]) w6 HP6.out hl hd (by simp) hc1 (fun hd2 W mW pW => ?_)).mono ?_
    · refine (unary1_any f HU.out g (d + 1) w.heap.size (w.heap.size + 1) l.tail #[nv 7, nv 0, nv 0, sv [], sv [], sv [], nv 13, .slice none 0 0, nv p, nv q, nv z] W pW hd2 (HNN.out hd2) (mW.box HB06.out (by simp; omega)) (mW.box HB6.out (by simp; omega)) (by simp) (by omega)).mono fun e w' ho => ho.imp fun y W' v hg => ⟨hg.1, hg.2.more mW.size⟩
    rintro e w7 ⟨m7, h7⟩
    generalize (if d = 16 then Res.bad else pUnary f (d + 1) l.tail) = R7 at *
    have M7 : Hid (Mod [g] w w7) := Lib.hid (HA6.out.trans m7 (fun x hx => by simp at hx; rcases hx with rfl | rfl; · exact .inl (by simp)
                                                                              · exact .inr (by omega)))
    clear m7
    cases R7 with
    | oof => exact h7.elim
    | bad =>
      obtain ⟨er, ep, eq, ez, hne, rfl⟩ := h7
      have HN := Lib.hid hne
      clear hne
      have hq := HRR.out
      simp only [bind_bad, bind_ok] at hq
      subst hq
      go_wp2_with fail
      exact ⟨rfl, M7.out, er, ep, eq, ez, HN.out, rfl⟩
    | ok y r =>
      obtain ⟨p7, v, rfl, rfl, W7, ⟨us, S, rb, e1, e2, e3, e4, e5⟩, m8⟩ := h7
      have hq := HRR.out
      simp only [bind_ok] at hq
      subst hq
      have P7 := Lib.hid p7
      have hrb : rb < W7.heap.size := (Array.getElem?_eq_some_iff.1 e2).1
      have HB7 : Hid (w7.heap[w.heap.size + 1]? = some (.cells #[nv 7, nv 0, nv 0, sv [], sv [], sv [], nv 13, .slice (some ⟨rb, 0, none⟩) 1 1, nv p, nv q, nv z] 59 (0, 0))) := Lib.hid (m8.box e1 (by simp; omega))
      have R7 := Lib.hid (m8.box e2 (by simp; omega))
      have X7 : Hid (ExR w7 S y us) := Lib.hid (ExR.keep (fun b hb => m8.block b (e4 b hb).2 (by have := e4 b hb; simp; omega)) _ _ e3)
      have S7 : Hid (∀ b, S b → w6.heap.size ≤ b ∧ b < w7.heap.size) := Lib.hid (fun b hb => ⟨(e4 b hb).1, Nat.lt_of_lt_of_le (e4 b hb).2 m8.size⟩)
      have hrb7 : rb < w7.heap.size := Nat.lt_of_lt_of_le hrb m8.size
      have hul := ExR.size _ _ e3
      clear p7 e1 e2 e3 e4 m8 hrb
      obtain ⟨⟨⟨⟨y0, y1⟩, y2, y3⟩, ⟨y4, y5⟩, y6, y7⟩, ⟨y8, y9⟩, y10⟩ := cells11 HB7.out
      obtain ⟨⟨⟨⟨fr0, fr1⟩, fr2, fr3⟩, ⟨fr4, fr5⟩, fr6, fr7⟩, ⟨fr8, fr9⟩, fr10⟩ := frozen11 HB7.out
      go_wp2_with fail
      refine bodyPost_ret (v := .agg #[nv 7, nv 0, nv 0, sv [], sv [], sv [], nv 13, .slice (some ⟨rb, 0, none⟩) 1 1, nv p, nv q, nv z]) (by simp [results, Tryz.results176, go_sem, y0, y1, y2, y3, y4, y5, y6, y7, y8, y9, y10]) rfl ?_
      have hns : ¬ (S (w.heap.size + 1) ∨ w.heap.size + 1 = rb) := by
        rintro (hh | hh)
        · have := S7.out _ hh; omega
        · omega
      refine ⟨?_, ?_, _, rfl, exC (.un 13 y) (.slice (some ⟨rb, 0, none⟩) 1 1) p q z, fun b => S b ∨ b = rb, rfl, ?_, ?_⟩
      · repeat (first | (with_reducible exact M7.out) | refine Mod.set ?_ (.inr (Nat.le_succ _)) _)
      · repeat (first | (with_reducible exact P7.out) | refine Ps.set ?_ (Nat.lt_succ_of_lt hlt) _)
      · have hX : ExR w7 (fun b => S b ∨ b = rb) (.un 13 y) (exC (.un 13 y) (.slice (some ⟨rb, 0, none⟩) 1 1) p q z) := ExR.one rfl rfl (Row.of_block R7.out (.inr rfl) (by rw [hul]) (by omega) (by omega)) (ExR.mono (fun b hb => .inl hb) _ _ X7.out)
        repeat (first | (with_reducible exact hX) | refine ExR.set ?_ hns _)
      · intro b hb
        have : w.heap.size ≤ b ∧ b < w7.heap.size := by
          rcases hb with hb | hb
          · have := S7.out b hb; omega
          · omega
        simp
        omega
end Go.Proofs.YtnbmpfdffoidaaaGreatDoor.Y
