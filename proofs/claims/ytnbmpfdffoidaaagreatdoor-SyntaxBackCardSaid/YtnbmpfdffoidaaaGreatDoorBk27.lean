/- Texts of the proof, joined: SynWrk, SynPar. -/
import Derived.Test.YtnbmpfdffoidaaaGreatDoorBk26
import Derived.Recover
set_option linter.unusedVariables false
set_option linter.unusedSimpArgs false
set_option maxHeartbeats 8000000
set_option maxRecDepth 100000
namespace Go.Proofs.YtnbmpfdffoidaaaGreatDoor.Y
open Go.RowKit O V S X
def Fx (w : World) (lo L : Nat) (A : Option Addr) (k c : Nat) (a : List Tb) : Prop := ∃ xs S, Row w S 3 A k c xs ∧ Reps (TbR w S) a xs ∧ ∀ b, S b → lo ≤ b ∧ b < L
theorem Fx.keep {w w' : World} {lo L k c : Nat} {A : Option Addr} {a : List Tb} (h : Fx w lo L A k c a) (hk : ∀ b, lo ≤ b → b < L → w'.heap[b]? = w.heap[b]?) : Fx w' lo L A k c a := by
 obtain ⟨xs, S, h1, h2, h3⟩ := h
 exact ⟨xs, S, h1.keep (fun b hb => hk b (h3 b hb).1 (h3 b hb).2), h2.imp (fun x vs => TbR.keep (fun b hb => hk b (h3 b hb).1 (h3 b hb).2) x vs), h3⟩
theorem Fx.mod {w w' : World} {lo L k c : Nat} {A : Option Addr} {a : List Tb} {bs : List Nat} (h : Fx w lo L A k c a) (m : Mod bs w w') (hb : ∀ b ∈ bs, b < lo) (hL : L ≤ w.heap.size) : Fx w' lo L A k c a :=
 h.keep fun b h1 h2 => m.block b (by omega) (fun hx => by have := hb b hx; omega)
theorem Tk.fx {w : World} {lo k c : Nat} {A : Option Addr} {a : List Tb} {xs : List Value} {S : Nat → Prop} (h : Tk TbR 66 3 w lo A k c a xs S) : Fx w lo w.heap.size A k c a :=
 ⟨xs, fun b => S b ∨ (Value.slice A k c).ownBlock = some b, Row.of_own h.own (fun g hg => .inr hg), h.reps.imp (fun x vs => TbR.mono (fun b hb => .inl hb) x vs), fun b hb => hb.elim (fun hb => ⟨(h.out b hb).1, (h.out b hb).2.1⟩) (fun hb => h.own.lt b hb)⟩
theorem wk_made {w W : World} {b0 lo L k c m d : Nat} {A B : Option Addr} {a : List Tb} {b : List Pc} {ys : List Value} {S2 : Nat → Prop} (hM : Mod [b0] w W) (fx : Fx w (lo + 1) L A k c a) (cp : Tk PcR 41 6 w L B m d b ys S2) (hk : a.length = k) (h0 : b0 < lo + 1) (h1 : lo < L) (hL : L ≤ w.heap.size) :
  ∃ S, WkR W S ⟨a, b⟩ (.agg #[.slice A k c, .slice B m d]) ∧ In lo W S := by
 obtain ⟨xs, S, r1, r2, r3⟩ := fx.mod hM (fun x hx => by simp at hx; omega) hL
 have cp' := cp.mod pc_keep hM (fun x hx => by simp at hx; omega)
 have hz := hM.size
 subst hk
 obtain rfl := cp'.len
 refine ⟨fun x => S x ∨ (S2 x ∨ (Value.slice B b.length d).ownBlock = some x), ⟨A, c, xs, B, d, ys, rfl, ⟨r1.mono (fun x hx => .inl hx), r2.imp (fun t vs => TbR.mono (fun x hx => .inl hx) t vs)⟩, Row.of_own cp'.own (fun g hg => .inr (.inr hg)), cp'.reps.imp (fun t vs => PcR.mono (fun x hx => .inr (.inl hx)) t vs)⟩, fun x hx => ?_⟩
 rcases hx with hx | hx | hx
 ·have := r3 x hx; exact ⟨by omega, by omega⟩
 ·have := cp'.out x hx; exact ⟨by omega, by omega⟩
 ·have := cp'.own.lt x hx; exact ⟨by omega, by omega⟩
theorem cols_left : ∀ (f : Nat) (a : List Cl) (l : List Tok), Left l.length (pCols f a l)
 | 0, a, l => by rw [pCols]; trivial
 | f + 1, a, l => by
  rw [pCols]
  split
  ·show l.tail.length ≤ _; simp
  ·refine Left.bind (n := l.length) (m := l.length) ?_ fun _ r h => Left.bind (((col_left r).mono (by omega))) fun c r h => Left.bind ((want_left r _).mono h) fun _ r h => (cols_left f _ r).mono h
   split
   ·exact room_left _ _ _
   ·exact Nat.le_refl _
theorem want_left1 (l : List Tok) (s : List UInt8) : Left (l.length - 1) (want l s) := by
 unfold want
 split
 ·show l.tail.length ≤ _; simp
 ·trivial
theorem table_left (f : Nat) (l : List Tok) : Left (l.length - 1) (pTable f l) := by
 unfold pTable
 exact Left.bind (want_left1 l _) fun _ r h => Left.bind (((name_left1 r).mono (by omega)).mono h) fun n r h => Left.bind ((want_left r _).mono h) fun _ r h => Left.bind ((num_left r).mono h) fun k r h => Left.bind ((want_left r _).mono h) fun _ r h => Left.bind ((cols_left f _ r).mono h) fun c r h => h
theorem params_left : ∀ (f : Nat) (a : List Cl) (l : List Tok), Left l.length (pParams f a l)
 | 0, a, l => by rw [pParams]; trivial
 | f + 1, a, l => by
  rw [pParams]
  split
  ·refine Left.bind (n := l.length) (m := l.length) ?_ fun _ r h => Left.bind (((col_left r).mono (by omega))) fun c r h => (params_left f _ r).mono h
   split
   ·exact (room_left _ _ _).mono (by simp)
   ·show l.tail.length ≤ _; simp
  ·exact Nat.le_refl _
theorem proc_left (f : Nat) (l : List Tok) : Left (l.length - 1) (pProc f l) := by
 unfold pProc
 refine Left.bind (want_left1 l _) fun _ r h => Left.bind (((name_left1 r).mono (by omega)).mono h) fun n r h => Left.bind ((want_left r _).mono h) fun _ r h => Left.bind (n := l.length - 1) ?_ fun c r h => Left.bind ((want_left r _).mono h) fun _ r h => Left.bind (((stmt_left f).2.1 0 r).mono h) fun b r h => h
 split
 ·exact h
 ·exact Left.bind (((col_left r).mono (by omega)).mono h) fun c r h => (params_left f _ r).mono h
theorem work_any (f g : Nat) (l : List Tok) (w : World) (h : Ps w g 0 l) (hno : pWork f l ≠ .oof) : Calls Tryz.prog 17 #[.pointer (some ⟨g, 0, none⟩)] w (Out [g] g 0 w (pWork f l) fun k w' v => ∃ S, WkR w' S k v ∧ In w.heap.size w' S) := by
 obtain ⟨RT, hRT⟩ : ∃ RT, pWork f l = RT := ⟨_, rfl⟩
 rw [hRT] at hno ⊢
 unfold pWork at hRT
 have HR := Lib.hid hRT
 have HNO := Lib.hid hno
 have hlt := h.lt
 obtain ⟨w1, hw⟩ : ∃ W, w.alloc (.cells #[.slice none 0 0, .slice none 0 0] 25) = W := ⟨_, rfl⟩
 have MW : Hid (Mod [g] w w1) := Lib.hid (by rw [← hw]; exact (Mod.refl _ _).alloc _)
 have BX : Hid (w1.heap[w.heap.size]? = some (.cells #[.slice none 0 0, .slice none 0 0] 25 (0, 0))) := Lib.hid (by rw [← hw]; exact alloc_at rfl)
 have PW : Hid (Ps w1 g 0 l) := Lib.hid (by rw [← hw]; exact h.alloc _)
 have CK : Hid (Tk TbR 66 3 w1 (w.heap.size + 1) none 0 0 [] [] (fun _ => False)) := Lib.hid (Tk.nil_ _ _)
 clear hRT hno h
 go_enter Tryz.func17, Tryz.ntmps17
 go_wp2_with fail
 clear hw
 go_loopw [] (fun wr => ∃ (f' : Nat) (a : List Tb) (l' : List Tok) (k : Nat) (A : Option Addr) (c : Nat) (xs : List Value) (S : Nat → Prop), f' ≤ f ∧ k ≤ 8 ∧ Hid ((pTables f' a l').bind (fun t r => (pProcs f [] r).bind fun p r => if r = [] then Res.ok ⟨t, p⟩ r else .bad) = RT) ∧ Hid (wr.heap[w.heap.size]? = some (.cells #[.slice A k c, .slice none 0 0] 25 (0, 0))) ∧ Hid (Tk TbR 66 3 wr (w.heap.size + 1) A k c a xs S) ∧ Hid (Ps wr g 0 l') ∧ Hid (Mod [g] w wr)) (fun wr => lenW wr g)
 case atStart => exact ⟨f, [], l, 0, none, 0, [], _, Nat.le_refl _, by omega, HR, BX, CK, PW, MW⟩
 case round =>
  clear HR BX CK PW MW
  obtain ⟨f', a, l', k, A, c, xs, S, hf', hk8, HR, BX, CK, PW, MW⟩ := hrel
  cases f' with
  | zero => exact absurd (HR.out.symm.trans (by rw [pTables]; rfl)) HNO.out
  | succ f2 =>
   have hR1 := HR.out
   rw [pTables] at hR1
   unfold w_table at hR1
   have HLN := Lib.hid (PW.out.lenW)
   clear HR
   go_wp2_with fail
   refine (is_any g 0 l' [116, 97, 98, 108, 101] _ PW.out).mono ?_; rintro e w8 ⟨rfl, rfl⟩
   cases hi : isT l' [116, 97, 98, 108, 101] with
   | false =>
    rw [hi] at hR1
    simp only [Bool.false_eq_true, if_false, bind_ok] at hR1
    have HR := Lib.hid hR1
    clear hR1 hi
    obtain ⟨L, hL⟩ : ∃ L, L = w8.heap.size := ⟨_, rfl⟩
    have hbx0 : w.heap.size < w8.heap.size := (Array.getElem?_eq_some_iff.1 BX.out).1
    have FX : Hid (Fx w8 (w.heap.size + 1) L A k c a) := Lib.hid (by rw [hL]; exact CK.out.fx)
    have CP : Hid (Tk PcR 41 6 w8 L none 0 0 [] [] (fun _ => False)) := Lib.hid (Tk.nil_ _ _)
    have hLL : L ≤ w8.heap.size := by omega
    have hL0 : w.heap.size < L := by omega
    have HAK : Hid (a.length = k) := Lib.hid CK.out.len
    clear CK hL hbx0 HLN
    go_wp2_with fail
    go_loopw [] (fun wr => ∃ (f' : Nat) (bb : List Pc) (l' : List Tok) (kk : Nat) (B : Option Addr) (d : Nat) (ys : List Value) (S2 : Nat → Prop), f' ≤ f ∧ kk ≤ 8 ∧ Hid ((pProcs f' bb l').bind (fun p r => if r = [] then Res.ok ⟨a, p⟩ r else .bad) = RT) ∧ Hid (wr.heap[w.heap.size]? = some (.cells #[.slice A k c, .slice B kk d] 25 (0, 0))) ∧ Hid (Fx wr (w.heap.size + 1) L A k c a) ∧ Hid (Tk PcR 41 6 wr L B kk d bb ys S2) ∧ Hid (Ps wr g 0 l') ∧ Hid (Mod [g] w wr) ∧ L ≤ wr.heap.size) (fun wr => lenW wr g)
    case atStart => exact ⟨f, [], l', 0, none, 0, [], _, Nat.le_refl _, by omega, HR, BX, FX, CP, PW, MW, hLL⟩
    case round =>
     clear HR BX FX CP PW MW hLL
     obtain ⟨f', bb, l', kk, B, d, ys, S2, hf', hj8, HR, BX, FX, CP, PW, MW, hLL⟩ := hrel
     cases f' with
     | zero => exact absurd (HR.out.symm.trans (by rw [pProcs]; rfl)) HNO.out
     | succ f2 =>
      have hR1 := HR.out
      rw [pProcs] at hR1
      unfold w_proc at hR1
      have HLN := Lib.hid (PW.out.lenW)
      clear HR
      go_wp2_with fail
      refine (is_any g 0 l' [112, 114, 111, 99] _ PW.out).mono ?_; rintro e w8 ⟨rfl, rfl⟩
      cases hi : isT l' [112, 114, 111, 99] with
      | false =>
       rw [hi] at hR1
       simp only [Bool.false_eq_true, if_false, bind_ok] at hR1
       have HR := Lib.hid hR1
       clear hR1 hi
       obtain ⟨PA, pn, pc, pa, pb, pe, hp⟩ := PW.out
       have hpl := hp.row.len
       have px0 := hp.cells.1.1
       clear hp
       cases l' with
       | nil =>
        obtain rfl : pn = 0 := by simpa using hpl.symm
        have hq := HR.out
        rw [if_pos rfl] at hq
        subst hq
        have x0 : w8.cell? ⟨w.heap.size, 0, none⟩ = some (.slice A k c) := by rw [Lib.cell_of_heap BX.out]; rfl
        have x1 : w8.cell? ⟨w.heap.size, 1, none⟩ = some (.slice B kk d) := by rw [Lib.cell_of_heap BX.out]; rfl
        have fr0 : w8.frozen? ⟨w.heap.size, 0, none⟩ = false := Lib.frozen_of_heap BX.out 0
        have fr1 : w8.frozen? ⟨w.heap.size, 1, none⟩ = false := Lib.frozen_of_heap BX.out 1
        go_wp2_with fail
        refine bodyPost_ret (v := .agg #[.slice A k c, .slice B kk d]) (by simp [results, Tryz.results17, go_sem, x0, x1]) rfl ?_
        refine ⟨?_, ?_, _, rfl, wk_made (b0 := w.heap.size) ?_ FX.out CP.out HAK.out (by omega) (by omega) hLL⟩
        ·repeat (first | (with_reducible exact MW.out) | refine Mod.set ?_ (.inr (by omega)) _)
        ·repeat (first | (with_reducible exact PW.out) | refine Ps.set ?_ (by omega) _)
        ·repeat (first | (with_reducible exact Mod.refl _ _) | refine Mod.set ?_ (.inl (by simp)) _)
       | cons t0 l0 =>
        have hpn : 0 < pn := by simp at hpl; omega
        have dp : decide ((pn : Int) > 0) = true := by simp; omega
        have hq := HR.out
        rw [if_neg (by simp)] at hq
        subst hq
        go_wp2_with fail
        refine (wrong_any g 0 (t0 :: l0) _ PW.out).mono ?_; rintro e w9 ⟨⟨er, p, q, r, hne, rfl⟩, hb9⟩
        have HN := Lib.hid hne
        clear hne
        go_wp2_with fail
        exact ⟨rfl, MW.out.then (.of_below hb9), er, p, q, r, HN.out, rfl⟩
      | true =>
       rw [hi] at hR1
       simp only [if_true, bind_assoc] at hR1
       have HR := Lib.hid hR1
       have HL0 : Hid (0 < l'.length) := Lib.hid (by cases l' with
        | nil => cases hi
        | cons t0 l0 => simp)
       have x1 : w8.cell? ⟨w.heap.size, 1, none⟩ = some (.slice B kk d) := by rw [Lib.cell_of_heap BX.out]; rfl
       clear hR1 hi
       go_wp2_with fail
       refine (room_any g 0 kk 8 l' _ PW.out (by omega) (by omega)).mono ?_; rintro e w10 hN
       have m := hN.1
       replace MW := Lib.hid (MW.out.then m)
       replace BX := Lib.hid (m.box BX.out (by simp; omega))
       try replace CK := Lib.hid (CK.out.mod tb_keep m (fun b hb => by simp at hb; omega))
       try replace CP := Lib.hid (CP.out.mod pc_keep m (fun b hb => by simp at hb; omega))
       try replace FX := Lib.hid (FX.out.mod m (fun b hb => by simp at hb; omega) (by omega))
       try (have hLm := m.size; replace hLL : L ≤ _ := Nat.le_trans hLL hLm; clear hLm)
       rcases hN.parts with ⟨hp, er, ep, eq, ez, hne, rfl⟩ | ⟨u, r, v, hp, pN, rfl, rfl⟩
       ·rw [← CP.out.len] at hp
        have HN := Lib.hid hne
        clear hne
        have hq := HR.out
        rw [hp] at hq
        simp only [bind_bad] at hq
        subst hq
        go_wp2_with fail
        exact ⟨rfl, MW.out, er, ep, eq, ez, HN.out, rfl⟩
       have hkl : kk < 8 ∧ r = l' := by
        unfold room at hp
        split at hp
        ·cases hp
        ·injection hp with _ h2
         exact ⟨by omega, h2.symm⟩
       obtain ⟨hkl, rfl⟩ := hkl
       rw [← CP.out.len] at hp
       have hq := HR.out
       rw [hp] at hq
       simp only [bind_ok] at hq
       replace HR := Lib.hid hq
       replace PW := Lib.hid pN
       clear hq hp pN
       clear hN m x1
       go_wp2_with fail
       refine wp_region_last (l := [_, _, _, _, _, _, _]) [w.heap.size] (.read 0 (.read 1 (.read 2 (.call 3 (.call 4 (.call 5 (.read 6 .done))))))) (by kernel_rfl) (by kernel_rfl) (by kernel_rfl) (fun _ _ d _ _ h => by cases d <;> exact h) ?_
       refine pwith (fun W hW => (show W.cell? ⟨w.heap.size, 1, none⟩ = some (.slice B kk d) from by rw [Lib.cell_of_heap ((hW w.heap.size (by simp)).trans BX.out)]; rfl)) (fun k7 => ?_)
       repeat (first | (refine sreadxP rfl rfl ?_; apply Exists.intro; apply And.intro; (· (intro W hW; go_simp; try (first | with_reducible rfl | (rw [if_neg (by omega)]; try with_reducible rfl)))); simp only [Act.put, List.setIfInBounds_toArray, List.set_cons_zero, List.set_cons_succ]) | (refine pskip rfl rfl ?_; simp only [Act.put, List.setIfInBounds_toArray, List.set_cons_zero, List.set_cons_succ]))
       refine pcall rfl rfl (fun K hK => ?_)
       go_simp
       have hnb := bind_no HR.out HNO.out
       refine (proc_any f2 g r _ (PW.out.next (Below.refl _ _).drew) hnb).mono ?_; rintro e wa hN
       have m : Mod [g] w10 wa := (Mod.refl _ _).drew.then hN.1
       have hbx : w.heap.size < w10.heap.size := (Array.getElem?_eq_some_iff.1 BX.out).1
       have hkb : wa.heap[w.heap.size]? = w10.heap[w.heap.size]? := m.block w.heap.size hbx (by simp; omega)
       have hL1 : L ≤ w10.heap.size := by omega
       have HOB : Hid (∀ j, (Value.slice B kk d).ownBlock = some j → j < w10.heap.size) := Lib.hid (fun j hj => (CP.out.own.lt j hj).2)
       replace MW := Lib.hid (MW.out.then m)
       replace BX := Lib.hid (m.box BX.out (by simp; omega))
       try replace CK := Lib.hid (CK.out.mod tb_keep m (fun b hb => by simp at hb; omega))
       try replace CP := Lib.hid (CP.out.mod pc_keep m (fun b hb => by simp at hb; omega))
       try replace FX := Lib.hid (FX.out.mod m (fun b hb => by simp at hb; omega) (by omega))
       try (have hLm := m.size; replace hLL : L ≤ _ := Nat.le_trans hLL hLm; clear hLm)
       clear hnb
       have hlf := proc_left f2 r
       rcases hN.parts with ⟨hp, er, ep, eq, ez, hne, rfl⟩ | ⟨y, rr, v, hp, pN, rfl, vs, S5, rfl, hT, hIn⟩
       ·have HN := Lib.hid hne
        clear hne
        have hq := HR.out
        rw [hp] at hq
        simp only [bind_bad] at hq
        subst hq
        go_wp2_with fail
        exact ⟨rfl, MW.out, er, ep, eq, ez, HN.out, rfl⟩
       rw [hp] at hlf
       have HCL : Hid (rr.length ≤ r.length - 1) := Lib.hid hlf
       have TY := Lib.hid hT
       have HIN := Lib.hid hIn
       obtain ⟨A5, c5, es, B5, d5, bs5, p5, q5, z5, rfl, -⟩ := hT
       have hq := HR.out
       rw [hp] at hq
       simp only [bind_ok] at hq
       replace HR := Lib.hid hq
       replace PW := Lib.hid pN
       clear hq hp pN
       clear hN m hlf hIn
       have hv : Value.agg (List.toArray [sv y.name, .slice A5 y.params.length c5, .slice B5 y.body.len d5, nv p5, nv q5, nv z5]) = .agg #[sv y.name, .slice A5 y.params.length c5, .slice B5 y.body.len d5, nv p5, nv q5, nv z5] := rfl
       rw [hv]
       clear hv
       go_wp2_with fail
       refine hK.out _ _ (fun b hb => by simp at hb; rw [hb]; exact hkb) ?_
       clear hK K hkb k7
       try simp only [Act.put, List.setIfInBounds_toArray, List.set_cons_zero, List.set_cons_succ]
       refine pcall rfl rfl (fun K hK => ?_)
       go_simp
       have hba : w.heap.size < wa.heap.size := (Array.getElem?_eq_some_iff.1 BX.out).1
       refine hK.out _ _ (fun b hb => Below.heap_alloc _ _ _ (by simp at hb; omega)) ?_
       clear hK K
       try simp only [Act.put, List.setIfInBounds_toArray, List.set_cons_zero, List.set_cons_succ]
       obtain ⟨wb, hw⟩ : ∃ W, W = wa.alloc (.cells #[sv y.name, .slice A5 y.params.length c5, .slice B5 y.body.len d5, nv p5, nv q5, nv z5] 41) := ⟨_, rfl⟩
       have m : Mod [g] wa wb := by rw [hw]; exact (Mod.refl _ _).alloc _
       have RD : Hid (Rd wb (wa.heap.size + 1) 6 (some ⟨wa.heap.size, 0, none⟩) 1 [sv y.name, .slice A5 y.params.length c5, .slice B5 y.body.len d5, nv p5, nv q5, nv z5]) := Lib.hid (by rw [hw]; exact Rd.made _ _ rfl rfl)
       have hzb : wb.heap.size = wa.heap.size + 1 := by rw [hw]; simp
       have hzd : w10.drew.heap.size = w10.heap.size := rfl
       replace PW : Hid (Ps wb g 0 rr) := Lib.hid (by rw [hw]; exact PW.out.alloc _)
       replace TY := Lib.hid (pc_keep _ wb _ _ _ (fun b hb => m.block b (HIN.out b hb).2 (by have := (HIN.out b hb).1; simp; omega)) TY.out)
       have H5 : Hid (∀ b, S5 b → L ≤ b ∧ b < wb.heap.size ∧ (Value.slice B kk d).ownBlock ≠ some b) := Lib.hid (fun b hb => ⟨by have := (HIN.out b hb).1; omega, by have := (HIN.out b hb).2; omega, fun e => by have := HOB.out b e; have := (HIN.out b hb).1; omega⟩)
       replace MW := Lib.hid (MW.out.then m)
       replace BX := Lib.hid (m.box BX.out (by simp; omega))
       try replace CK := Lib.hid (CK.out.mod tb_keep m (fun b hb => by simp at hb; omega))
       try replace CP := Lib.hid (CP.out.mod pc_keep m (fun b hb => by simp at hb; omega))
       try replace FX := Lib.hid (FX.out.mod m (fun b hb => by simp at hb; omega) (by omega))
       try (have hLm := m.size; replace hLL : L ≤ _ := Nat.le_trans hLL hLm; clear hLm)
       first | rw [← hw] | (unfold nv sv at hw; rw [← hw])
       clear hw m HIN HOB hzd
       refine pcall rfl rfl (fun K hK => ?_)
       refine wapp4 (.tmp 25) (.tmp 28) pcE rfl (L) ys rfl CP.out.own rfl [sv y.name, .slice A5 y.params.length c5, .slice B5 y.body.len d5, nv p5, nv q5, nv z5] RD.out (by simp [Value.oneCell']) (by unfold maxLen; omega) (by omega) (by omega) rfl ?_
       intro A7 c7 w7 o7 g7 h7
       have hne7 : ∀ b, b ≤ w.heap.size → some b ≠ (Value.slice B kk d).ownBlock := fun b hb e => by have := (CP.out.own.lt _ e.symm).1; omega
       refine hK.out _ _ (fun b hb => by simp at hb; rw [hb]; exact g7.block w.heap.size (by omega) (hne7 _ (by omega))) ?_
       clear hK K
       try simp only [Act.put, List.setIfInBounds_toArray, List.set_cons_zero, List.set_cons_succ]
       replace BX := Lib.hid ((g7.block w.heap.size (by omega) (hne7 _ (by omega))).trans BX.out)
       replace PW : Hid (Ps w7 g 0 rr) := Lib.hid (PW.out.keep (fun b hb => g7.block b (by omega) (hne7 b (by omega))))
       replace MW : Hid (Mod [g] w w7) := Lib.hid (MW.out.grown g7 (fun j hj => .inr (by have := (CP.out.own.lt j hj).1; omega)))
       have CPo : ∀ x, (Value.slice B kk d).ownBlock = some x → L ≤ x := fun x hx => (CP.out.own.lt x hx).1
       replace CP := Lib.hid (CP.out.app pc_keep pc_mono TY.out H5.out o7 g7 h7)
       replace FX := Lib.hid (FX.out.keep (fun b h1 h2 => g7.block b (by omega) (fun e => by have := (CPo b e.symm); omega)))
       replace hLL : L ≤ w7.heap.size := Nat.le_trans hLL g7.size
       clear o7 g7 h7 hne7 RD hzb H5 TY
       repeat (first | (refine sreadxP rfl rfl ?_; apply Exists.intro; apply And.intro; (· (intro W hW; go_simp; try (first | with_reducible rfl | (rw [if_neg (by omega)]; try with_reducible rfl)))); simp only [Act.put, List.setIfInBounds_toArray, List.set_cons_zero, List.set_cons_succ]) | (refine pskip rfl rfl ?_; simp only [Act.put, List.setIfInBounds_toArray, List.set_cons_zero, List.set_cons_succ]))
       refine pdone ?_
       refine last_step rfl (fun K hK => ?_)
       have x0 : w7.cell? ⟨w.heap.size, 1, none⟩ = some (.slice B kk d) := by rw [Lib.cell_of_heap BX.out]; rfl
       have fr0 : w7.frozen? ⟨w.heap.size, 1, none⟩ = false := Lib.frozen_of_heap BX.out 1
       go_simp
       refine hK.out _ _ ?_
       clear hK K x0 fr0
       obtain ⟨wc, hw⟩ : ∃ W, w7.setCell ⟨w.heap.size, 1, none⟩ (.slice A7 (kk + 1) c7) = W := ⟨_, rfl⟩
       have hzc : wc.heap.size = w7.heap.size := by rw [← hw]; simp
       have m : Mod [w.heap.size] w7 wc := by rw [← hw]; exact (Mod.refl _ _).set (.inl (by simp)) _
       try replace CK := Lib.hid (CK.out.mod tb_keep m (fun b hb => by simp at hb; omega))
       try replace CP := Lib.hid (CP.out.mod pc_keep m (fun b hb => by simp at hb; omega))
       replace BX : Hid (wc.heap[w.heap.size]? = some (.cells #[.slice A k c, .slice A7 (kk + 1) c7] 25 (0, 0))) := Lib.hid (by rw [← hw]; exact heap_set' BX.out _ 1 rfl)
       replace MW : Hid (Mod [g] w wc) := Lib.hid (by rw [← hw]; exact MW.out.set (.inr (Nat.le_refl _)) _)
       replace PW : Hid (Ps wc g 0 rr) := Lib.hid (by rw [← hw]; exact PW.out.set (by omega) _)
       replace FX := Lib.hid (FX.out.mod m (fun b hb => by simp at hb; omega) (by omega))
       replace hLL : L ≤ wc.heap.size := by omega
       try rw [hw]
       clear hw m
       have hll := PW.out.lenW
       have hln := HLN.out
       have hlc := HCL.out
       have hl0 := HL0.out
       go_wp2_with fail
       go_roundw
       case rel => exact ⟨f2, bb ++ [y], rr, kk + 1, A7, c7, _, _, by omega, by omega, HR, BX, FX, CP, PW, MW, hLL⟩
       case measure => rw [hll, hln]; omega
   | true =>
    rw [hi] at hR1
    simp only [if_true, bind_assoc] at hR1
    have HR := Lib.hid hR1
    have HL0 : Hid (0 < l'.length) := Lib.hid (by cases l' with
     | nil => cases hi
     | cons t0 l0 => simp)
    have x0 : w8.cell? ⟨w.heap.size, 0, none⟩ = some (.slice A k c) := by rw [Lib.cell_of_heap BX.out]; rfl
    clear hR1 hi
    go_wp2_with fail
    refine (room_any g 0 k 8 l' _ PW.out (by omega) (by omega)).mono ?_; rintro e w10 hN
    have m := hN.1
    replace MW := Lib.hid (MW.out.then m)
    replace BX := Lib.hid (m.box BX.out (by simp; omega))
    try replace CK := Lib.hid (CK.out.mod tb_keep m (fun b hb => by simp at hb; omega))
    try replace CP := Lib.hid (CP.out.mod pc_keep m (fun b hb => by simp at hb; omega))
    try replace FX := Lib.hid (FX.out.mod m (fun b hb => by simp at hb; omega) (by omega))
    try (have hLm := m.size; replace hLL : L ≤ _ := Nat.le_trans hLL hLm; clear hLm)
    rcases hN.parts with ⟨hp, er, ep, eq, ez, hne, rfl⟩ | ⟨u, r, v, hp, pN, rfl, rfl⟩
    ·rw [← CK.out.len] at hp
     have HN := Lib.hid hne
     clear hne
     have hq := HR.out
     rw [hp] at hq
     simp only [bind_bad] at hq
     subst hq
     go_wp2_with fail
     exact ⟨rfl, MW.out, er, ep, eq, ez, HN.out, rfl⟩
    have hkl : k < 8 ∧ r = l' := by
     unfold room at hp
     split at hp
     ·cases hp
     ·injection hp with _ h2
      exact ⟨by omega, h2.symm⟩
    obtain ⟨hkl, rfl⟩ := hkl
    rw [← CK.out.len] at hp
    have hq := HR.out
    rw [hp] at hq
    simp only [bind_ok] at hq
    replace HR := Lib.hid hq
    replace PW := Lib.hid pN
    clear hq hp pN
    clear hN m x0
    go_wp2_with fail
    refine wp_region_last (l := [_, _, _, _, _, _, _]) [w.heap.size] (.read 0 (.read 1 (.read 2 (.call 3 (.call 4 (.call 5 (.read 6 .done))))))) (by kernel_rfl) (by kernel_rfl) (by kernel_rfl) (fun _ _ d _ _ h => by cases d <;> exact h) ?_
    refine pwith (fun W hW => (show W.cell? ⟨w.heap.size, 0, none⟩ = some (.slice A k c) from by rw [Lib.cell_of_heap ((hW w.heap.size (by simp)).trans BX.out)]; rfl)) (fun k7 => ?_)
    repeat (first | (refine sreadxP rfl rfl ?_; apply Exists.intro; apply And.intro; (· (intro W hW; go_simp; try (first | with_reducible rfl | (rw [if_neg (by omega)]; try with_reducible rfl)))); simp only [Act.put, List.setIfInBounds_toArray, List.set_cons_zero, List.set_cons_succ]) | (refine pskip rfl rfl ?_; simp only [Act.put, List.setIfInBounds_toArray, List.set_cons_zero, List.set_cons_succ]))
    refine pcall rfl rfl (fun K hK => ?_)
    go_simp
    have hnb := bind_no HR.out HNO.out
    refine (table_any f2 g 0 r _ (PW.out.next (Below.refl _ _).drew) hnb).mono ?_; rintro e wa hN
    have m : Mod [g] w10 wa := (Mod.refl _ _).drew.then hN.1
    have hbx : w.heap.size < w10.heap.size := (Array.getElem?_eq_some_iff.1 BX.out).1
    have hkb : wa.heap[w.heap.size]? = w10.heap[w.heap.size]? := m.block w.heap.size hbx (by simp; omega)
    have hL1 : w.heap.size + 1 ≤ w10.heap.size := by omega
    have HOB : Hid (∀ j, (Value.slice A k c).ownBlock = some j → j < w10.heap.size) := Lib.hid (fun j hj => (CK.out.own.lt j hj).2)
    replace MW := Lib.hid (MW.out.then m)
    replace BX := Lib.hid (m.box BX.out (by simp; omega))
    try replace CK := Lib.hid (CK.out.mod tb_keep m (fun b hb => by simp at hb; omega))
    try replace CP := Lib.hid (CP.out.mod pc_keep m (fun b hb => by simp at hb; omega))
    try replace FX := Lib.hid (FX.out.mod m (fun b hb => by simp at hb; omega) (by omega))
    try (have hLm := m.size; replace hLL : L ≤ _ := Nat.le_trans hLL hLm; clear hLm)
    clear hnb
    have hlf := table_left f2 r
    rcases hN.parts with ⟨hp, er, ep, eq, ez, hne, rfl⟩ | ⟨y, rr, v, hp, pN, rfl, vs, S5, rfl, hT, hIn⟩
    ·have HN := Lib.hid hne
     clear hne
     have hq := HR.out
     rw [hp] at hq
     simp only [bind_bad] at hq
     subst hq
     go_wp2_with fail
     exact ⟨rfl, MW.out, er, ep, eq, ez, HN.out, rfl⟩
    rw [hp] at hlf
    have HCL : Hid (rr.length ≤ r.length - 1) := Lib.hid hlf
    have TY := Lib.hid hT
    have HIN := Lib.hid hIn
    obtain ⟨A5, c5, es, rfl, -⟩ := hT
    have hq := HR.out
    rw [hp] at hq
    simp only [bind_ok] at hq
    replace HR := Lib.hid hq
    replace PW := Lib.hid pN
    clear hq hp pN
    clear hN m hlf hIn
    have hv : Value.agg (List.toArray [sv y.name, nv y.rows, .slice A5 y.cols.length c5]) = .agg #[sv y.name, nv y.rows, .slice A5 y.cols.length c5] := rfl
    rw [hv]
    clear hv
    go_wp2_with fail
    refine hK.out _ _ (fun b hb => by simp at hb; rw [hb]; exact hkb) ?_
    clear hK K hkb k7
    try simp only [Act.put, List.setIfInBounds_toArray, List.set_cons_zero, List.set_cons_succ]
    refine pcall rfl rfl (fun K hK => ?_)
    go_simp
    have hba : w.heap.size < wa.heap.size := (Array.getElem?_eq_some_iff.1 BX.out).1
    refine hK.out _ _ (fun b hb => Below.heap_alloc _ _ _ (by simp at hb; omega)) ?_
    clear hK K
    try simp only [Act.put, List.setIfInBounds_toArray, List.set_cons_zero, List.set_cons_succ]
    obtain ⟨wb, hw⟩ : ∃ W, W = wa.alloc (.cells #[sv y.name, nv y.rows, .slice A5 y.cols.length c5] 66) := ⟨_, rfl⟩
    have m : Mod [g] wa wb := by rw [hw]; exact (Mod.refl _ _).alloc _
    have RD : Hid (Rd wb (wa.heap.size + 1) 3 (some ⟨wa.heap.size, 0, none⟩) 1 [sv y.name, nv y.rows, .slice A5 y.cols.length c5]) := Lib.hid (by rw [hw]; exact Rd.made _ _ rfl rfl)
    have hzb : wb.heap.size = wa.heap.size + 1 := by rw [hw]; simp
    have hzd : w10.drew.heap.size = w10.heap.size := rfl
    replace PW : Hid (Ps wb g 0 rr) := Lib.hid (by rw [hw]; exact PW.out.alloc _)
    replace TY := Lib.hid (tb_keep _ wb _ _ _ (fun b hb => m.block b (HIN.out b hb).2 (by have := (HIN.out b hb).1; simp; omega)) TY.out)
    have H5 : Hid (∀ b, S5 b → w.heap.size + 1 ≤ b ∧ b < wb.heap.size ∧ (Value.slice A k c).ownBlock ≠ some b) := Lib.hid (fun b hb => ⟨by have := (HIN.out b hb).1; omega, by have := (HIN.out b hb).2; omega, fun e => by have := HOB.out b e; have := (HIN.out b hb).1; omega⟩)
    replace MW := Lib.hid (MW.out.then m)
    replace BX := Lib.hid (m.box BX.out (by simp; omega))
    try replace CK := Lib.hid (CK.out.mod tb_keep m (fun b hb => by simp at hb; omega))
    try replace CP := Lib.hid (CP.out.mod pc_keep m (fun b hb => by simp at hb; omega))
    try replace FX := Lib.hid (FX.out.mod m (fun b hb => by simp at hb; omega) (by omega))
    try (have hLm := m.size; replace hLL : L ≤ _ := Nat.le_trans hLL hLm; clear hLm)
    first | rw [← hw] | (unfold nv sv at hw; rw [← hw])
    clear hw m HIN HOB hzd
    refine pcall rfl rfl (fun K hK => ?_)
    refine wapp4 (.tmp 11) (.tmp 14) tbE rfl (w.heap.size + 1) xs rfl CK.out.own rfl [sv y.name, nv y.rows, .slice A5 y.cols.length c5] RD.out (by simp [Value.oneCell']) (by unfold maxLen; omega) (by omega) (by omega) rfl ?_
    intro A7 c7 w7 o7 g7 h7
    have hne7 : ∀ b, b ≤ w.heap.size → some b ≠ (Value.slice A k c).ownBlock := fun b hb e => by have := (CK.out.own.lt _ e.symm).1; omega
    refine hK.out _ _ (fun b hb => by simp at hb; rw [hb]; exact g7.block w.heap.size (by omega) (hne7 _ (by omega))) ?_
    clear hK K
    try simp only [Act.put, List.setIfInBounds_toArray, List.set_cons_zero, List.set_cons_succ]
    replace BX := Lib.hid ((g7.block w.heap.size (by omega) (hne7 _ (by omega))).trans BX.out)
    replace PW : Hid (Ps w7 g 0 rr) := Lib.hid (PW.out.keep (fun b hb => g7.block b (by omega) (hne7 b (by omega))))
    replace MW : Hid (Mod [g] w w7) := Lib.hid (MW.out.grown g7 (fun j hj => .inr (by have := (CK.out.own.lt j hj).1; omega)))
    replace CK := Lib.hid (CK.out.app tb_keep tb_mono TY.out H5.out o7 g7 h7)
    clear o7 g7 h7 hne7 RD hzb H5 TY
    repeat (first | (refine sreadxP rfl rfl ?_; apply Exists.intro; apply And.intro; (· (intro W hW; go_simp; try (first | with_reducible rfl | (rw [if_neg (by omega)]; try with_reducible rfl)))); simp only [Act.put, List.setIfInBounds_toArray, List.set_cons_zero, List.set_cons_succ]) | (refine pskip rfl rfl ?_; simp only [Act.put, List.setIfInBounds_toArray, List.set_cons_zero, List.set_cons_succ]))
    refine pdone ?_
    refine last_step rfl (fun K hK => ?_)
    have x0 : w7.cell? ⟨w.heap.size, 0, none⟩ = some (.slice A k c) := by rw [Lib.cell_of_heap BX.out]; rfl
    have fr0 : w7.frozen? ⟨w.heap.size, 0, none⟩ = false := Lib.frozen_of_heap BX.out 0
    go_simp
    refine hK.out _ _ ?_
    clear hK K x0 fr0
    obtain ⟨wc, hw⟩ : ∃ W, w7.setCell ⟨w.heap.size, 0, none⟩ (.slice A7 (k + 1) c7) = W := ⟨_, rfl⟩
    have hzc : wc.heap.size = w7.heap.size := by rw [← hw]; simp
    have m : Mod [w.heap.size] w7 wc := by rw [← hw]; exact (Mod.refl _ _).set (.inl (by simp)) _
    try replace CK := Lib.hid (CK.out.mod tb_keep m (fun b hb => by simp at hb; omega))
    try replace CP := Lib.hid (CP.out.mod pc_keep m (fun b hb => by simp at hb; omega))
    replace BX : Hid (wc.heap[w.heap.size]? = some (.cells #[.slice A7 (k + 1) c7, .slice none 0 0] 25 (0, 0))) := Lib.hid (by rw [← hw]; exact heap_set' BX.out _ 0 rfl)
    replace MW : Hid (Mod [g] w wc) := Lib.hid (by rw [← hw]; exact MW.out.set (.inr (Nat.le_refl _)) _)
    replace PW : Hid (Ps wc g 0 rr) := Lib.hid (by rw [← hw]; exact PW.out.set (by omega) _)
    try rw [hw]
    clear hw m
    have hll := PW.out.lenW
    have hln := HLN.out
    have hlc := HCL.out
    have hl0 := HL0.out
    go_wp2_with fail
    go_roundw
    case rel => exact ⟨f2, a ++ [y], rr, k + 1, A7, c7, _, _, by omega, by omega, HR, BX, CK, PW, MW⟩
    case measure => rw [hll, hln]; omega
end Go.Proofs.YtnbmpfdffoidaaaGreatDoor.Y
namespace Go.Proofs.YtnbmpfdffoidaaaGreatDoor.Y
open Go.RowKit O V S X
theorem box_setY {w : World} {b : Nat} {o : Obj} (h : w.heap[b]? = some o) (b' i : Nat) (hne : b ≠ b') (v : Value) : (w.setCell ⟨b', i, none⟩ v).heap[b]? = some o := (Below.heap_setCell _ _ _ _ hne).trans h
theorem parse1_idle (p q r : Addr) (w : World) :
  CallsD Tryz.prog 15 #[.pointer (some p), .pointer (some q), .pointer (some r)] .returning w fun e u' w' => e = .returned (.tuple #[]) ∧ u' = .returning ∧ w' = w := by
 refine callsD_of_wpS Tryz.func15 rfl fun c₀ cs hu => ?_
 apply wpS_seq
 apply wpS_region
 simp [wpOpsS, go_sem, recoverD, hu, Tryz.ntmps15, Exit.thenS]
 refine wpS_of_wp ?_
 have e : (#[Value.pointer (some p), Value.pointer (some q), Value.pointer (some r)] ++ (Array.replicate 14 undef).setIfInBounds 3 Value.nilIface) = #[Value.pointer (some p), Value.pointer (some q), Value.pointer (some r), undef, undef, undef, Value.nilIface, undef, undef, undef, undef, undef, undef, undef, undef, undef, undef] := by simp [Array.replicate]
 rw [e]
 go_wp2_with fail
 cases c₀
 simp_all [bodyPostS, results, Tryz.results15]
theorem parse1_fault (b2 b3 b4 : Nat) (er p q r : Int) (z0 z1 z2 z3 z4 z5 : Value) (w : World) (h2 : w.heap[b2]? = some (.cells #[z0, z1] 25 (0, 0))) (h3 : w.heap[b3]? = some (.cells #[z2] 26 (0, 0))) (h4 : w.heap[b4]? = some (.cells #[z3, z4, z5] 28 (0, 0))) (h23 : b2 < b3) (h34 : b3 < b4) :
  CallsD Tryz.prog 15 #[.pointer (some ⟨b2, 0, none⟩), .pointer (some ⟨b3, 0, none⟩), .pointer (some ⟨b4, 0, none⟩)] (.panicking [{ v := flt er p q r, recovered := false }]) w fun e u' w' => e = .returned (.tuple #[]) ∧ u' = .panicking [{ v := flt er p q r, recovered := true }] ∧ Mod [b2, b3, b4] w w' ∧ w'.heap[b2]? = some (.cells #[.slice none 0 0, .slice none 0 0] 25 (0, 0)) ∧ w'.heap[b3]? = some (.cells #[nv er] 26 (0, 0)) ∧ w'.heap[b4]? = some (.cells #[nv p, nv q, nv r] 28 (0, 0)) := by
 refine callsD_of_wpS Tryz.func15 rfl fun c₀ cs hu => ?_
 apply wpS_seq
 apply wpS_region
 simp [wpOpsS, go_sem, recoverD, hu, Tryz.ntmps15, Exit.thenS]
 refine wpS_of_wp ?_
 have e : (#[Value.pointer (some ⟨b2, 0, none⟩), Value.pointer (some ⟨b3, 0, none⟩), Value.pointer (some ⟨b4, 0, none⟩)] ++ (Array.replicate 14 undef).setIfInBounds 3 (flt er p q r)) = #[Value.pointer (some ⟨b2, 0, none⟩), Value.pointer (some ⟨b3, 0, none⟩), Value.pointer (some ⟨b4, 0, none⟩), undef, undef, undef, flt er p q r, undef, undef, undef, undef, undef, undef, undef, undef, undef, undef] := by simp [Array.replicate]
 rw [e]
 clear e
 obtain ⟨Q9, hQ9⟩ : ∃ Q9, Q9 = (fun (e : Exit) (a' : Act) (w' : World) => bodyPostS Tryz.prog Tryz.f15 c₀ cs (fun e u' w' => e = Ending.returned (Value.tuple #[]) ∧ u' = FrameMode.panicking [{ v := flt er p q r, recovered := true }] ∧ Mod [b2, b3, b4] w w' ∧ w'.heap[b2]? = some (.cells #[.slice none 0 0, .slice none 0 0] 25 (0, 0)) ∧ w'.heap[b3]? = some (.cells #[nv er] 26 (0, 0)) ∧ w'.heap[b4]? = some (.cells #[nv p, nv q, nv r] 28 (0, 0))) e a' ({ fn := c₀.fn, tmps := c₀.tmps, todo := c₀.todo, defers := c₀.defers, mode := FrameMode.panicking [{ v := flt er p q r, recovered := true }], kind := c₀.kind, roundOf := c₀.roundOf } :: cs) w') := ⟨_, rfl⟩
 rw [← hQ9]
 have HQ := Lib.hid hQ9
 clear hQ9
 have hta : ∀ W, (Instr.typeAssert (.iface 50 (.agg #[nv er, nv p, nv q, nv r])) 20 50 true).run Tryz.prog W = .ok (.tuple #[.agg #[nv er, nv p, nv q, nv r], .bool true]) W := fun W => by kernel_rfl
 unfold flt
 have hlt2 : b2 < w.heap.size := (Array.getElem?_eq_some_iff.1 h2).1
 have hlt3 : b3 < w.heap.size := (Array.getElem?_eq_some_iff.1 h3).1
 have hlt4 : b4 < w.heap.size := (Array.getElem?_eq_some_iff.1 h4).1
 have yf20 := Lib.frozen_of_heap h2 0
 have yf21 := Lib.frozen_of_heap h2 1
 have yf30 := Lib.frozen_of_heap h3 0
 have yf40 := Lib.frozen_of_heap h4 0
 have yf41 := Lib.frozen_of_heap h4 1
 have yf42 := Lib.frozen_of_heap h4 2
 have y20 : w.cell? ⟨b2, 0, none⟩ = some z0 := by rw [Lib.cell_of_heap h2]; rfl
 have y21 : w.cell? ⟨b2, 1, none⟩ = some z1 := by rw [Lib.cell_of_heap h2]; rfl
 have y30 : w.cell? ⟨b3, 0, none⟩ = some z2 := by rw [Lib.cell_of_heap h3]; rfl
 have y40 : w.cell? ⟨b4, 0, none⟩ = some z3 := by rw [Lib.cell_of_heap h4]; rfl
 have y41 : w.cell? ⟨b4, 1, none⟩ = some z4 := by rw [Lib.cell_of_heap h4]; rfl
 have y42 : w.cell? ⟨b4, 2, none⟩ = some z5 := by rw [Lib.cell_of_heap h4]; rfl
 go_wp2_with fail
 go_region
 have hQ9 := HQ.out
 clear HQ
 show Q9 _ _ _
 rw [hQ9]
 cases c₀
 simp only [bodyPostS, results, Tryz.results15]
 refine ⟨trivial, _, rfl, .tuple #[], by simp [go_sem], rfl, rfl, ?_, ?_, ?_, ?_⟩
 ·refine (Mod.alloc ?_ _).drew
  iterate 6 refine Mod.set ?_ (.inl (by simp)) _
  exact Mod.refl _ _
 ·refine alloc_old' (w := _) ?_
  have a0 := heap_set (i := 0) h2 (.slice none 0 0)
  have a1 := heap_set (i := 1) a0 (.slice none 0 0)
  exact box_setY (box_setY (box_setY (box_setY a1 b3 0 (by omega) (nv er)) b4 0 (by omega) (nv p)) b4 1 (by omega) (nv q)) b4 2 (by omega) (nv r)
 ·refine alloc_old' (w := _) ?_
  have a0 := heap_set (i := 0) (box_setY (box_setY h3 b2 0 (by omega) (.slice none 0 0)) b2 1 (by omega) (.slice none 0 0)) (nv er)
  exact box_setY (box_setY (box_setY a0 b4 0 (by omega) (nv p)) b4 1 (by omega) (nv q)) b4 2 (by omega) (nv r)
 ·refine alloc_old' (w := _) ?_
  have a0 := heap_set (i := 0) (box_setY (box_setY (box_setY h4 b2 0 (by omega) (.slice none 0 0)) b2 1 (by omega) (.slice none 0 0)) b3 0 (by omega) (nv er)) (nv p)
  have a1 := heap_set (i := 1) a0 (nv q)
  exact heap_set (i := 2) a1 (nv r)
end Go.Proofs.YtnbmpfdffoidaaaGreatDoor.Y
