/- Texts of the proof, joined: SynWrk, SynPar, SynPar2. -/
import Derived.Test.YtnbmpfdffoidaaaGreatSp08
import Derived.Test.YtnbmpfdffoidaaaGreatSp29
import Derived.Recover
set_option linter.unusedVariables false
set_option linter.unusedSimpArgs false
set_option maxHeartbeats 8000000
set_option maxRecDepth 100000
namespace Go.Proofs.YtnbmpfdffoidaaaGreat.Y
open Go.RowKit O V S X
def Fx (w : World) (lo L : Nat) (A : Option Addr) (k c : Nat) (a : List Tb) : Prop := ∃ xs S, Row w S 3 A k c xs ∧ Reps (TbR w S) a xs ∧ ∀ b, S b → lo ≤ b ∧ b < L
theorem Fx.keep {w w' : World} {lo L k c : Nat} {A : Option Addr} {a : List Tb} (h : Fx w lo L A k c a) (hk : ∀ b, lo ≤ b → b < L → w'.heap[b]? = w.heap[b]?) : Fx w' lo L A k c a := by
 obtain ⟨xs, S, h1, h2, h3⟩ := h
 exact ⟨xs, S, h1.keep (fun b hb => hk b (h3 b hb).1 (h3 b hb).2), h2.imp (fun x vs => TbR.keep (fun b hb => hk b (h3 b hb).1 (h3 b hb).2) x vs), h3⟩
theorem Fx.mod {w w' : World} {lo L k c : Nat} {A : Option Addr} {a : List Tb} {bs : List Nat} (h : Fx w lo L A k c a) (m : Mod bs w w') (hb : ∀ b ∈ bs, b < lo) (hL : L ≤ w.heap.size) : Fx w' lo L A k c a :=
 h.keep fun b h1 h2 => m.block b (by omega) (fun hx => by have := hb b hx; omega)
theorem Tk.fx {w : World} {lo k c : Nat} {A : Option Addr} {a : List Tb} {xs : List Value} {S : Nat → Prop} (h : Tk TbR 67 3 w lo A k c a xs S) : Fx w lo w.heap.size A k c a :=
 ⟨xs, fun b => S b ∨ (Value.slice A k c).ownBlock = some b, Row.of_own h.own (fun g hg => .inr hg), h.reps.imp (fun x vs => TbR.mono (fun b hb => .inl hb) x vs), fun b hb => hb.elim (fun hb => ⟨(h.out b hb).1, (h.out b hb).2.1⟩) (fun hb => h.own.lt b hb)⟩
theorem wk_made {w W : World} {b0 lo L k c m d : Nat} {A B : Option Addr} {a : List Tb} {b : List Pc} {ys : List Value} {S2 : Nat → Prop} (hM : Mod [b0] w W) (fx : Fx w (lo + 1) L A k c a) (cp : Tk PcR 49 6 w L B m d b ys S2) (hk : a.length = k) (h0 : b0 < lo + 1) (h1 : lo < L) (hL : L ≤ w.heap.size) :
  ∃ S, WkR W S ⟨a, b⟩ (.agg #[.slice A k c, .slice B m d]) ∧ In lo W S := by
 obtain ⟨xs, S, r1, r2, r3⟩ := fx.mod hM (fun x hx => by simp at hx; omega) hL
 have cp' := cp.mod pc_keep hM (fun x hx => by simp at hx; omega)
 have hz := hM.size
 subst hk
 obtain rfl := cp'.len
 refine ⟨fun x => S x ∨ (S2 x ∨ (Value.slice B b.length d).ownBlock = some x), ⟨A, c, xs, B, d, ys, rfl, ⟨r1.mono (fun x hx => .inl hx), r2.imp (fun t vs => TbR.mono (fun x hx => .inl hx) t vs)⟩, Row.of_own cp'.own (fun g hg => .inr (.inr hg)), cp'.reps.imp (fun t vs => PcR.mono (fun x hx => .inr (.inl hx)) t vs)⟩, fun x hx => ?_⟩
 rcases hx with hx | hx | hx
 ·have := r3 x hx; exact ⟨by omega, by omega⟩
 ·have := cp'.out x hx; exact ⟨by omega, by omega⟩
 ·have := cp'.own.lt x hx; exact ⟨by omega, by omega⟩
theorem cols_left : ∀ (f : Nat) (a : List Cl) (l : List Tok), Left l.length (pCols f a l)
 | 0, a, l => by rw [pCols]; trivial
 | f + 1, a, l => by
  rw [pCols]
  split
  ·show l.tail.length ≤ _; simp
  ·refine Left.bind (n := l.length) (m := l.length) ?_ fun _ r h => Left.bind (((col_left r).mono (by omega))) fun c r h => Left.bind ((want_left r _).mono h) fun _ r h => (cols_left f _ r).mono h
   split
   ·exact room_left _ _ _
   ·exact Nat.le_refl _
theorem want_left1 (l : List Tok) (s : List UInt8) : Left (l.length - 1) (want l s) := by
 unfold want
 split
 ·show l.tail.length ≤ _; simp
 ·trivial
theorem table_left (f : Nat) (l : List Tok) : Left (l.length - 1) (pTable f l) := by
 unfold pTable
 exact Left.bind (want_left1 l _) fun _ r h => Left.bind (((name_left1 r).mono (by omega)).mono h) fun n r h => Left.bind ((want_left r _).mono h) fun _ r h => Left.bind ((num_left r).mono h) fun k r h => Left.bind ((want_left r _).mono h) fun _ r h => Left.bind ((cols_left f _ r).mono h) fun c r h => h
theorem params_left : ∀ (f : Nat) (a : List Cl) (l : List Tok), Left l.length (pParams f a l)
 | 0, a, l => by rw [pParams]; trivial
 | f + 1, a, l => by
  rw [pParams]
  split
  ·refine Left.bind (n := l.length) (m := l.length) ?_ fun _ r h => Left.bind (((col_left r).mono (by omega))) fun c r h => (params_left f _ r).mono h
   split
   ·exact (room_left _ _ _).mono (by simp)
   ·show l.tail.length ≤ _; simp
  ·exact Nat.le_refl _
theorem proc_left (f : Nat) (l : List Tok) : Left (l.length - 1) (pProc f l) := by
 unfold pProc
 refine Left.bind (want_left1 l _) fun _ r h => Left.bind (((name_left1 r).mono (by omega)).mono h) fun n r h => Left.bind ((want_left r _).mono h) fun _ r h => Left.bind (n := l.length - 1) ?_ fun c r h => Left.bind ((want_left r _).mono h) fun _ r h => Left.bind (((stmt_left f).2.1 0 r).mono h) fun b r h => h
 split
 ·exact h
 ·exact Left.bind (((col_left r).mono (by omega)).mono h) fun c r h => (params_left f _ r).mono h
theorem work_any (f g : Nat) (l : List Tok) (w : World) (h : Ps w g 0 l) (hno : pWork f l ≠ .oof) : Calls Tryz.prog 18 #[.pointer (some ⟨g, 0, none⟩)] w (Out [g] g 0 w (pWork f l) fun k w' v => ∃ S, WkR w' S k v ∧ In w.heap.size w' S) := by
 obtain ⟨RT, hRT⟩ : ∃ RT, pWork f l = RT := ⟨_, rfl⟩
 rw [hRT] at hno ⊢
 unfold pWork at hRT
 have HR := Lib.hid hRT
 have HNO := Lib.hid hno
 have hlt := h.lt
 obtain ⟨w1, hw⟩ : ∃ W, w.alloc (.cells #[.slice none 0 0, .slice none 0 0] 26) = W := ⟨_, rfl⟩
 have MW : Hid (Mod [g] w w1) := Lib.hid (by rw [← hw]; exact (Mod.refl _ _).alloc _)
 have BX : Hid (w1.heap[w.heap.size]? = some (.cells #[.slice none 0 0, .slice none 0 0] 26 (0, 0))) := Lib.hid (by rw [← hw]; exact alloc_at rfl)
 have PW : Hid (Ps w1 g 0 l) := Lib.hid (by rw [← hw]; exact h.alloc _)
 have CK : Hid (Tk TbR 67 3 w1 (w.heap.size + 1) none 0 0 [] [] (fun _ => False)) := Lib.hid (Tk.nil_ _ _)
 clear hRT hno h
 go_enter Tryz.func18, Tryz.ntmps18
 go_wp2_with fail
 clear hw
 go_loopw [] (fun wr => ∃ (f' : Nat) (a : List Tb) (l' : List Tok) (k : Nat) (A : Option Addr) (c : Nat) (xs : List Value) (S : Nat → Prop), f' ≤ f ∧ k ≤ 8 ∧ Hid ((pTables f' a l').bind (fun t r => (pProcs f [] r).bind fun p r => if r = [] then Res.ok ⟨t, p⟩ r else .bad) = RT) ∧ Hid (wr.heap[w.heap.size]? = some (.cells #[.slice A k c, .slice none 0 0] 26 (0, 0))) ∧ Hid (Tk TbR 67 3 wr (w.heap.size + 1) A k c a xs S) ∧ Hid (Ps wr g 0 l') ∧ Hid (Mod [g] w wr)) (fun wr => lenW wr g)
 case atStart => exact ⟨f, [], l, 0, none, 0, [], _, Nat.le_refl _, by omega, HR, BX, CK, PW, MW⟩
 case round =>
  clear HR BX CK PW MW
  obtain ⟨f', a, l', k, A, c, xs, S, hf', hk8, HR, BX, CK, PW, MW⟩ := hrel
  cases f' with
  | zero => exact absurd (HR.out.symm.trans (by rw [pTables]; rfl)) HNO.out
  | succ f2 =>
   have hR1 := HR.out
   rw [pTables] at hR1
   unfold w_table at hR1
   have HLN := Lib.hid (PW.out.lenW)
   clear HR
   go_wp2_with fail
   refine (is_any g 0 l' [116, 97, 98, 108, 101] _ PW.out).mono ?_; rintro e w8 ⟨rfl, rfl⟩
   cases hi : isT l' [116, 97, 98, 108, 101] with
   | false =>
    rw [hi] at hR1
    simp only [Bool.false_eq_true, if_false, bind_ok] at hR1
    have HR := Lib.hid hR1
    clear hR1 hi
    obtain ⟨L, hL⟩ : ∃ L, L = w8.heap.size := ⟨_, rfl⟩
    have hbx0 : w.heap.size < w8.heap.size := (Array.getElem?_eq_some_iff.1 BX.out).1
    have FX : Hid (Fx w8 (w.heap.size + 1) L A k c a) := Lib.hid (by rw [hL]; exact CK.out.fx)
    have CP : Hid (Tk PcR 49 6 w8 L none 0 0 [] [] (fun _ => False)) := Lib.hid (Tk.nil_ _ _)
    have hLL : L ≤ w8.heap.size := by omega
    have hL0 : w.heap.size < L := by omega
    have HAK : Hid (a.length = k) := Lib.hid CK.out.len
    clear CK hL hbx0 HLN
    go_wp2_with fail
    go_loopw [] (fun wr => ∃ (f' : Nat) (bb : List Pc) (l' : List Tok) (kk : Nat) (B : Option Addr) (d : Nat) (ys : List Value) (S2 : Nat → Prop), f' ≤ f ∧ kk ≤ 8 ∧ Hid ((pProcs f' bb l').bind (fun p r => if r = [] then Res.ok ⟨a, p⟩ r else .bad) = RT) ∧ Hid (wr.heap[w.heap.size]? = some (.cells #[.slice A k c, .slice B kk d] 26 (0, 0))) ∧ Hid (Fx wr (w.heap.size + 1) L A k c a) ∧ Hid (Tk PcR 49 6 wr L B kk d bb ys S2) ∧ Hid (Ps wr g 0 l') ∧ Hid (Mod [g] w wr) ∧ L ≤ wr.heap.size) (fun wr => lenW wr g)
    case atStart => exact ⟨f, [], l', 0, none, 0, [], _, Nat.le_refl _, by omega, HR, BX, FX, CP, PW, MW, hLL⟩
    case round =>
     clear HR BX FX CP PW MW hLL
     obtain ⟨f', bb, l', kk, B, d, ys, S2, hf', hj8, HR, BX, FX, CP, PW, MW, hLL⟩ := hrel
     cases f' with
     | zero => exact absurd (HR.out.symm.trans (by rw [pProcs]; rfl)) HNO.out
     | succ f2 =>
      have hR1 := HR.out
      rw [pProcs] at hR1
      unfold w_proc at hR1
      have HLN := Lib.hid (PW.out.lenW)
      clear HR
      go_wp2_with fail
      refine (is_any g 0 l' [112, 114, 111, 99] _ PW.out).mono ?_; rintro e w8 ⟨rfl, rfl⟩
      cases hi : isT l' [112, 114, 111, 99] with
      | false =>
       rw [hi] at hR1
       simp only [Bool.false_eq_true, if_false, bind_ok] at hR1
       have HR := Lib.hid hR1
       clear hR1 hi
       obtain ⟨PA, pn, pc, pa, pb, pe, hp⟩ := PW.out
       have hpl := hp.row.len
       have px0 := hp.cells.1.1
       clear hp
       cases l' with
       | nil =>
        obtain rfl : pn = 0 := by simpa using hpl.symm
        have hq := HR.out
        rw [if_pos rfl] at hq
        subst hq
        have x0 : w8.cell? ⟨w.heap.size, 0, none⟩ = some (.slice A k c) := by rw [Lib.cell_of_heap BX.out]; rfl
        have x1 : w8.cell? ⟨w.heap.size, 1, none⟩ = some (.slice B kk d) := by rw [Lib.cell_of_heap BX.out]; rfl
        have fr0 : w8.frozen? ⟨w.heap.size, 0, none⟩ = false := Lib.frozen_of_heap BX.out 0
        have fr1 : w8.frozen? ⟨w.heap.size, 1, none⟩ = false := Lib.frozen_of_heap BX.out 1
        go_wp2_with fail
        refine bodyPost_ret (v := .agg #[.slice A k c, .slice B kk d]) (by simp [results, Tryz.results18, go_sem, x0, x1]) rfl ?_
        refine ⟨?_, ?_, _, rfl, wk_made (b0 := w.heap.size) ?_ FX.out CP.out HAK.out (by omega) (by omega) hLL⟩
        ·repeat (first | (with_reducible exact MW.out) | refine Mod.set ?_ (.inr (by omega)) _)
        ·repeat (first | (with_reducible exact PW.out) | refine Ps.set ?_ (by omega) _)
        ·repeat (first | (with_reducible exact Mod.refl _ _) | refine Mod.set ?_ (.inl (by simp)) _)
       | cons t0 l0 =>
        have hpn : 0 < pn := by simp at hpl; omega
        have dp : decide ((pn : Int) > 0) = true := by simp; omega
        have hq := HR.out
        rw [if_neg (by simp)] at hq
        subst hq
        go_wp2_with fail
        refine (wrong_any g 0 (t0 :: l0) _ PW.out).mono ?_; rintro e w9 ⟨⟨er, p, q, r, hne, rfl⟩, hb9⟩
        have HN := Lib.hid hne
        clear hne
        go_wp2_with fail
        exact ⟨rfl, MW.out.then (.of_below hb9), er, p, q, r, HN.out, rfl⟩
      | true =>
       rw [hi] at hR1
       simp only [if_true, bind_assoc] at hR1
       have HR := Lib.hid hR1
       have HL0 : Hid (0 < l'.length) := Lib.hid (by cases l' with
        | nil => cases hi
        | cons t0 l0 => simp)
       have x1 : w8.cell? ⟨w.heap.size, 1, none⟩ = some (.slice B kk d) := by rw [Lib.cell_of_heap BX.out]; rfl
       clear hR1 hi
       go_wp2_with fail
       refine (room_any g 0 kk 8 l' _ PW.out (by omega) (by omega)).mono ?_; rintro e w10 hN
       have m := hN.1
       replace MW := Lib.hid (MW.out.then m)
       replace BX := Lib.hid (m.box BX.out (by simp; omega))
       try replace CK := Lib.hid (CK.out.mod tb_keep m (fun b hb => by simp at hb; omega))
       try replace CP := Lib.hid (CP.out.mod pc_keep m (fun b hb => by simp at hb; omega))
       try replace FX := Lib.hid (FX.out.mod m (fun b hb => by simp at hb; omega) (by omega))
       try (have hLm := m.size; replace hLL : L ≤ _ := Nat.le_trans hLL hLm; clear hLm)
       rcases hN.parts with ⟨hp, er, ep, eq, ez, hne, rfl⟩ | ⟨u, r, v, hp, pN, rfl, rfl⟩
       ·rw [← CP.out.len] at hp
        have HN := Lib.hid hne
        clear hne
        have hq := HR.out
        rw [hp] at hq
        simp only [bind_bad] at hq
        subst hq
        go_wp2_with fail
        exact ⟨rfl, MW.out, er, ep, eq, ez, HN.out, rfl⟩
       have hkl : kk < 8 ∧ r = l' := by
        unfold room at hp
        split at hp
        ·cases hp
        ·injection hp with _ h2
         exact ⟨by omega, h2.symm⟩
       obtain ⟨hkl, rfl⟩ := hkl
       rw [← CP.out.len] at hp
       have hq := HR.out
       rw [hp] at hq
       simp only [bind_ok] at hq
       replace HR := Lib.hid hq
       replace PW := Lib.hid pN
       clear hq hp pN
       clear hN m x1
       go_wp2_with fail
       refine wp_region_last (l := [_, _, _, _, _, _, _]) [w.heap.size] (.read 0 (.read 1 (.read 2 (.call 3 (.call 4 (.call 5 (.read 6 .done))))))) (by kernel_rfl) (by kernel_rfl) (by kernel_rfl) (fun _ _ d _ _ h => by cases d <;> exact h) ?_
       refine pwith (fun W hW => (show W.cell? ⟨w.heap.size, 1, none⟩ = some (.slice B kk d) from by rw [Lib.cell_of_heap ((hW w.heap.size (by simp)).trans BX.out)]; rfl)) (fun k7 => ?_)
       repeat (first | (refine sreadxP rfl rfl ?_; apply Exists.intro; apply And.intro; (· (intro W hW; go_simp; try (first | with_reducible rfl | (rw [if_neg (by omega)]; try with_reducible rfl)))); simp only [Act.put, List.setIfInBounds_toArray, List.set_cons_zero, List.set_cons_succ]) | (refine pskip rfl rfl ?_; simp only [Act.put, List.setIfInBounds_toArray, List.set_cons_zero, List.set_cons_succ]))
       refine pcall rfl rfl (fun K hK => ?_)
       go_simp
       have hnb := bind_no HR.out HNO.out
       refine (proc_any f2 g r _ (PW.out.next (Below.refl _ _).drew) hnb).mono ?_; rintro e wa hN
       have m : Mod [g] w10 wa := (Mod.refl _ _).drew.then hN.1
       have hbx : w.heap.size < w10.heap.size := (Array.getElem?_eq_some_iff.1 BX.out).1
       have hkb : wa.heap[w.heap.size]? = w10.heap[w.heap.size]? := m.block w.heap.size hbx (by simp; omega)
       have hL1 : L ≤ w10.heap.size := by omega
       have HOB : Hid (∀ j, (Value.slice B kk d).ownBlock = some j → j < w10.heap.size) := Lib.hid (fun j hj => (CP.out.own.lt j hj).2)
       replace MW := Lib.hid (MW.out.then m)
       replace BX := Lib.hid (m.box BX.out (by simp; omega))
       try replace CK := Lib.hid (CK.out.mod tb_keep m (fun b hb => by simp at hb; omega))
       try replace CP := Lib.hid (CP.out.mod pc_keep m (fun b hb => by simp at hb; omega))
       try replace FX := Lib.hid (FX.out.mod m (fun b hb => by simp at hb; omega) (by omega))
       try (have hLm := m.size; replace hLL : L ≤ _ := Nat.le_trans hLL hLm; clear hLm)
       clear hnb
       have hlf := proc_left f2 r
       rcases hN.parts with ⟨hp, er, ep, eq, ez, hne, rfl⟩ | ⟨y, rr, v, hp, pN, rfl, vs, S5, rfl, hT, hIn⟩
       ·have HN := Lib.hid hne
        clear hne
        have hq := HR.out
        rw [hp] at hq
        simp only [bind_bad] at hq
        subst hq
        go_wp2_with fail
        exact ⟨rfl, MW.out, er, ep, eq, ez, HN.out, rfl⟩
       rw [hp] at hlf
       have HCL : Hid (rr.length ≤ r.length - 1) := Lib.hid hlf
       have TY := Lib.hid hT
       have HIN := Lib.hid hIn
       obtain ⟨A5, c5, es, B5, d5, bs5, p5, q5, z5, rfl, -⟩ := hT
       have hq := HR.out
       rw [hp] at hq
       simp only [bind_ok] at hq
       replace HR := Lib.hid hq
       replace PW := Lib.hid pN
       clear hq hp pN
       clear hN m hlf hIn
       have hv : Value.agg (List.toArray [sv y.name, .slice A5 y.params.length c5, .slice B5 y.body.len d5, nv p5, nv q5, nv z5]) = .agg #[sv y.name, .slice A5 y.params.length c5, .slice B5 y.body.len d5, nv p5, nv q5, nv z5] := rfl
       rw [hv]
       clear hv
       go_wp2_with fail
       refine hK.out _ _ (fun b hb => by simp at hb; rw [hb]; exact hkb) ?_
       clear hK K hkb k7
       try simp only [Act.put, List.setIfInBounds_toArray, List.set_cons_zero, List.set_cons_succ]
       refine pcall rfl rfl (fun K hK => ?_)
       go_simp
       have hba : w.heap.size < wa.heap.size := (Array.getElem?_eq_some_iff.1 BX.out).1
       refine hK.out _ _ (fun b hb => Below.heap_alloc _ _ _ (by simp at hb; omega)) ?_
       clear hK K
       try simp only [Act.put, List.setIfInBounds_toArray, List.set_cons_zero, List.set_cons_succ]
       obtain ⟨wb, hw⟩ : ∃ W, W = wa.alloc (.cells #[sv y.name, .slice A5 y.params.length c5, .slice B5 y.body.len d5, nv p5, nv q5, nv z5] 49) := ⟨_, rfl⟩
       have m : Mod [g] wa wb := by rw [hw]; exact (Mod.refl _ _).alloc _
       have RD : Hid (Rd wb (wa.heap.size + 1) 6 (some ⟨wa.heap.size, 0, none⟩) 1 [sv y.name, .slice A5 y.params.length c5, .slice B5 y.body.len d5, nv p5, nv q5, nv z5]) := Lib.hid (by rw [hw]; exact Rd.made _ _ rfl rfl)
       have hzb : wb.heap.size = wa.heap.size + 1 := by rw [hw]; simp
       have hzd : w10.drew.heap.size = w10.heap.size := rfl
       replace PW : Hid (Ps wb g 0 rr) := Lib.hid (by rw [hw]; exact PW.out.alloc _)
       replace TY := Lib.hid (pc_keep _ wb _ _ _ (fun b hb => m.block b (HIN.out b hb).2 (by have := (HIN.out b hb).1; simp; omega)) TY.out)
       have H5 : Hid (∀ b, S5 b → L ≤ b ∧ b < wb.heap.size ∧ (Value.slice B kk d).ownBlock ≠ some b) := Lib.hid (fun b hb => ⟨by have := (HIN.out b hb).1; omega, by have := (HIN.out b hb).2; omega, fun e => by have := HOB.out b e; have := (HIN.out b hb).1; omega⟩)
       replace MW := Lib.hid (MW.out.then m)
       replace BX := Lib.hid (m.box BX.out (by simp; omega))
       try replace CK := Lib.hid (CK.out.mod tb_keep m (fun b hb => by simp at hb; omega))
       try replace CP := Lib.hid (CP.out.mod pc_keep m (fun b hb => by simp at hb; omega))
       try replace FX := Lib.hid (FX.out.mod m (fun b hb => by simp at hb; omega) (by omega))
       try (have hLm := m.size; replace hLL : L ≤ _ := Nat.le_trans hLL hLm; clear hLm)
       first | rw [← hw] | (unfold nv sv at hw; rw [← hw])
       clear hw m HIN HOB hzd
       refine pcall rfl rfl (fun K hK => ?_)
       refine wapp4 (.tmp 25) (.tmp 28) pcE rfl (L) ys rfl CP.out.own rfl [sv y.name, .slice A5 y.params.length c5, .slice B5 y.body.len d5, nv p5, nv q5, nv z5] RD.out (by simp [Value.oneCell']) (by unfold maxLen; omega) (by omega) (by omega) rfl ?_
       intro A7 c7 w7 o7 g7 h7
       have hne7 : ∀ b, b ≤ w.heap.size → some b ≠ (Value.slice B kk d).ownBlock := fun b hb e => by have := (CP.out.own.lt _ e.symm).1; omega
       refine hK.out _ _ (fun b hb => by simp at hb; rw [hb]; exact g7.block w.heap.size (by omega) (hne7 _ (by omega))) ?_
       clear hK K
       try simp only [Act.put, List.setIfInBounds_toArray, List.set_cons_zero, List.set_cons_succ]
       replace BX := Lib.hid ((g7.block w.heap.size (by omega) (hne7 _ (by omega))).trans BX.out)
       replace PW : Hid (Ps w7 g 0 rr) := Lib.hid (PW.out.keep (fun b hb => g7.block b (by omega) (hne7 b (by omega))))
       replace MW : Hid (Mod [g] w w7) := Lib.hid (MW.out.grown g7 (fun j hj => .inr (by have := (CP.out.own.lt j hj).1; omega)))
       have CPo : ∀ x, (Value.slice B kk d).ownBlock = some x → L ≤ x := fun x hx => (CP.out.own.lt x hx).1
       replace CP := Lib.hid (CP.out.app pc_keep pc_mono TY.out H5.out o7 g7 h7)
       replace FX := Lib.hid (FX.out.keep (fun b h1 h2 => g7.block b (by omega) (fun e => by have := (CPo b e.symm); omega)))
       replace hLL : L ≤ w7.heap.size := Nat.le_trans hLL g7.size
       clear o7 g7 h7 hne7 RD hzb H5 TY
       repeat (first | (refine sreadxP rfl rfl ?_; apply Exists.intro; apply And.intro; (· (intro W hW; go_simp; try (first | with_reducible rfl | (rw [if_neg (by omega)]; try with_reducible rfl)))); simp only [Act.put, List.setIfInBounds_toArray, List.set_cons_zero, List.set_cons_succ]) | (refine pskip rfl rfl ?_; simp only [Act.put, List.setIfInBounds_toArray, List.set_cons_zero, List.set_cons_succ]))
       refine pdone ?_
       refine last_step rfl (fun K hK => ?_)
       have x0 : w7.cell? ⟨w.heap.size, 1, none⟩ = some (.slice B kk d) := by rw [Lib.cell_of_heap BX.out]; rfl
       have fr0 : w7.frozen? ⟨w.heap.size, 1, none⟩ = false := Lib.frozen_of_heap BX.out 1
       go_simp
       refine hK.out _ _ ?_
       clear hK K x0 fr0
       obtain ⟨wc, hw⟩ : ∃ W, w7.setCell ⟨w.heap.size, 1, none⟩ (.slice A7 (kk + 1) c7) = W := ⟨_, rfl⟩
       have hzc : wc.heap.size = w7.heap.size := by rw [← hw]; simp
       have m : Mod [w.heap.size] w7 wc := by rw [← hw]; exact (Mod.refl _ _).set (.inl (by simp)) _
       try replace CK := Lib.hid (CK.out.mod tb_keep m (fun b hb => by simp at hb; omega))
       try replace CP := Lib.hid (CP.out.mod pc_keep m (fun b hb => by simp at hb; omega))
       replace BX : Hid (wc.heap[w.heap.size]? = some (.cells #[.slice A k c, .slice A7 (kk + 1) c7] 26 (0, 0))) := Lib.hid (by rw [← hw]; exact heap_set' BX.out _ 1 rfl)
       replace MW : Hid (Mod [g] w wc) := Lib.hid (by rw [← hw]; exact MW.out.set (.inr (Nat.le_refl _)) _)
       replace PW : Hid (Ps wc g 0 rr) := Lib.hid (by rw [← hw]; exact PW.out.set (by omega) _)
       replace FX := Lib.hid (FX.out.mod m (fun b hb => by simp at hb; omega) (by omega))
       replace hLL : L ≤ wc.heap.size := by omega
       try rw [hw]
       clear hw m
       have hll := PW.out.lenW
       have hln := HLN.out
       have hlc := HCL.out
       have hl0 := HL0.out
       go_wp2_with fail
       go_roundw
       case rel => exact ⟨f2, bb ++ [y], rr, kk + 1, A7, c7, _, _, by omega, by omega, HR, BX, FX, CP, PW, MW, hLL⟩
       case measure => rw [hll, hln]; omega
   | true =>
    rw [hi] at hR1
    simp only [if_true, bind_assoc] at hR1
    have HR := Lib.hid hR1
    have HL0 : Hid (0 < l'.length) := Lib.hid (by cases l' with
     | nil => cases hi
     | cons t0 l0 => simp)
    have x0 : w8.cell? ⟨w.heap.size, 0, none⟩ = some (.slice A k c) := by rw [Lib.cell_of_heap BX.out]; rfl
    clear hR1 hi
    go_wp2_with fail
    refine (room_any g 0 k 8 l' _ PW.out (by omega) (by omega)).mono ?_; rintro e w10 hN
    have m := hN.1
    replace MW := Lib.hid (MW.out.then m)
    replace BX := Lib.hid (m.box BX.out (by simp; omega))
    try replace CK := Lib.hid (CK.out.mod tb_keep m (fun b hb => by simp at hb; omega))
    try replace CP := Lib.hid (CP.out.mod pc_keep m (fun b hb => by simp at hb; omega))
    try replace FX := Lib.hid (FX.out.mod m (fun b hb => by simp at hb; omega) (by omega))
    try (have hLm := m.size; replace hLL : L ≤ _ := Nat.le_trans hLL hLm; clear hLm)
    rcases hN.parts with ⟨hp, er, ep, eq, ez, hne, rfl⟩ | ⟨u, r, v, hp, pN, rfl, rfl⟩
    ·rw [← CK.out.len] at hp
     have HN := Lib.hid hne
     clear hne
     have hq := HR.out
     rw [hp] at hq
     simp only [bind_bad] at hq
     subst hq
     go_wp2_with fail
     exact ⟨rfl, MW.out, er, ep, eq, ez, HN.out, rfl⟩
    have hkl : k < 8 ∧ r = l' := by
     unfold room at hp
     split at hp
     ·cases hp
     ·injection hp with _ h2
      exact ⟨by omega, h2.symm⟩
    obtain ⟨hkl, rfl⟩ := hkl
    rw [← CK.out.len] at hp
    have hq := HR.out
    rw [hp] at hq
    simp only [bind_ok] at hq
    replace HR := Lib.hid hq
    replace PW := Lib.hid pN
    clear hq hp pN
    clear hN m x0
    go_wp2_with fail
    refine wp_region_last (l := [_, _, _, _, _, _, _]) [w.heap.size] (.read 0 (.read 1 (.read 2 (.call 3 (.call 4 (.call 5 (.read 6 .done))))))) (by kernel_rfl) (by kernel_rfl) (by kernel_rfl) (fun _ _ d _ _ h => by cases d <;> exact h) ?_
    refine pwith (fun W hW => (show W.cell? ⟨w.heap.size, 0, none⟩ = some (.slice A k c) from by rw [Lib.cell_of_heap ((hW w.heap.size (by simp)).trans BX.out)]; rfl)) (fun k7 => ?_)
    repeat (first | (refine sreadxP rfl rfl ?_; apply Exists.intro; apply And.intro; (· (intro W hW; go_simp; try (first | with_reducible rfl | (rw [if_neg (by omega)]; try with_reducible rfl)))); simp only [Act.put, List.setIfInBounds_toArray, List.set_cons_zero, List.set_cons_succ]) | (refine pskip rfl rfl ?_; simp only [Act.put, List.setIfInBounds_toArray, List.set_cons_zero, List.set_cons_succ]))
    refine pcall rfl rfl (fun K hK => ?_)
    go_simp
    have hnb := bind_no HR.out HNO.out
    refine (table_any f2 g 0 r _ (PW.out.next (Below.refl _ _).drew) hnb).mono ?_; rintro e wa hN
    have m : Mod [g] w10 wa := (Mod.refl _ _).drew.then hN.1
    have hbx : w.heap.size < w10.heap.size := (Array.getElem?_eq_some_iff.1 BX.out).1
    have hkb : wa.heap[w.heap.size]? = w10.heap[w.heap.size]? := m.block w.heap.size hbx (by simp; omega)
    have hL1 : w.heap.size + 1 ≤ w10.heap.size := by omega
    have HOB : Hid (∀ j, (Value.slice A k c).ownBlock = some j → j < w10.heap.size) := Lib.hid (fun j hj => (CK.out.own.lt j hj).2)
    replace MW := Lib.hid (MW.out.then m)
    replace BX := Lib.hid (m.box BX.out (by simp; omega))
    try replace CK := Lib.hid (CK.out.mod tb_keep m (fun b hb => by simp at hb; omega))
    try replace CP := Lib.hid (CP.out.mod pc_keep m (fun b hb => by simp at hb; omega))
    try replace FX := Lib.hid (FX.out.mod m (fun b hb => by simp at hb; omega) (by omega))
    try (have hLm := m.size; replace hLL : L ≤ _ := Nat.le_trans hLL hLm; clear hLm)
    clear hnb
    have hlf := table_left f2 r
    rcases hN.parts with ⟨hp, er, ep, eq, ez, hne, rfl⟩ | ⟨y, rr, v, hp, pN, rfl, vs, S5, rfl, hT, hIn⟩
    ·have HN := Lib.hid hne
     clear hne
     have hq := HR.out
     rw [hp] at hq
     simp only [bind_bad] at hq
     subst hq
     go_wp2_with fail
     exact ⟨rfl, MW.out, er, ep, eq, ez, HN.out, rfl⟩
    rw [hp] at hlf
    have HCL : Hid (rr.length ≤ r.length - 1) := Lib.hid hlf
    have TY := Lib.hid hT
    have HIN := Lib.hid hIn
    obtain ⟨A5, c5, es, rfl, -⟩ := hT
    have hq := HR.out
    rw [hp] at hq
    simp only [bind_ok] at hq
    replace HR := Lib.hid hq
    replace PW := Lib.hid pN
    clear hq hp pN
    clear hN m hlf hIn
    have hv : Value.agg (List.toArray [sv y.name, nv y.rows, .slice A5 y.cols.length c5]) = .agg #[sv y.name, nv y.rows, .slice A5 y.cols.length c5] := rfl
    rw [hv]
    clear hv
    go_wp2_with fail
    refine hK.out _ _ (fun b hb => by simp at hb; rw [hb]; exact hkb) ?_
    clear hK K hkb k7
    try simp only [Act.put, List.setIfInBounds_toArray, List.set_cons_zero, List.set_cons_succ]
    refine pcall rfl rfl (fun K hK => ?_)
    go_simp
    have hba : w.heap.size < wa.heap.size := (Array.getElem?_eq_some_iff.1 BX.out).1
    refine hK.out _ _ (fun b hb => Below.heap_alloc _ _ _ (by simp at hb; omega)) ?_
    clear hK K
    try simp only [Act.put, List.setIfInBounds_toArray, List.set_cons_zero, List.set_cons_succ]
    obtain ⟨wb, hw⟩ : ∃ W, W = wa.alloc (.cells #[sv y.name, nv y.rows, .slice A5 y.cols.length c5] 67) := ⟨_, rfl⟩
    have m : Mod [g] wa wb := by rw [hw]; exact (Mod.refl _ _).alloc _
    have RD : Hid (Rd wb (wa.heap.size + 1) 3 (some ⟨wa.heap.size, 0, none⟩) 1 [sv y.name, nv y.rows, .slice A5 y.cols.length c5]) := Lib.hid (by rw [hw]; exact Rd.made _ _ rfl rfl)
    have hzb : wb.heap.size = wa.heap.size + 1 := by rw [hw]; simp
    have hzd : w10.drew.heap.size = w10.heap.size := rfl
    replace PW : Hid (Ps wb g 0 rr) := Lib.hid (by rw [hw]; exact PW.out.alloc _)
    replace TY := Lib.hid (tb_keep _ wb _ _ _ (fun b hb => m.block b (HIN.out b hb).2 (by have := (HIN.out b hb).1; simp; omega)) TY.out)
    have H5 : Hid (∀ b, S5 b → w.heap.size + 1 ≤ b ∧ b < wb.heap.size ∧ (Value.slice A k c).ownBlock ≠ some b) := Lib.hid (fun b hb => ⟨by have := (HIN.out b hb).1; omega, by have := (HIN.out b hb).2; omega, fun e => by have := HOB.out b e; have := (HIN.out b hb).1; omega⟩)
    replace MW := Lib.hid (MW.out.then m)
    replace BX := Lib.hid (m.box BX.out (by simp; omega))
    try replace CK := Lib.hid (CK.out.mod tb_keep m (fun b hb => by simp at hb; omega))
    try replace CP := Lib.hid (CP.out.mod pc_keep m (fun b hb => by simp at hb; omega))
    try replace FX := Lib.hid (FX.out.mod m (fun b hb => by simp at hb; omega) (by omega))
    try (have hLm := m.size; replace hLL : L ≤ _ := Nat.le_trans hLL hLm; clear hLm)
    first | rw [← hw] | (unfold nv sv at hw; rw [← hw])
    clear hw m HIN HOB hzd
    refine pcall rfl rfl (fun K hK => ?_)
    refine wapp4 (.tmp 11) (.tmp 14) tbE rfl (w.heap.size + 1) xs rfl CK.out.own rfl [sv y.name, nv y.rows, .slice A5 y.cols.length c5] RD.out (by simp [Value.oneCell']) (by unfold maxLen; omega) (by omega) (by omega) rfl ?_
    intro A7 c7 w7 o7 g7 h7
    have hne7 : ∀ b, b ≤ w.heap.size → some b ≠ (Value.slice A k c).ownBlock := fun b hb e => by have := (CK.out.own.lt _ e.symm).1; omega
    refine hK.out _ _ (fun b hb => by simp at hb; rw [hb]; exact g7.block w.heap.size (by omega) (hne7 _ (by omega))) ?_
    clear hK K
    try simp only [Act.put, List.setIfInBounds_toArray, List.set_cons_zero, List.set_cons_succ]
    replace BX := Lib.hid ((g7.block w.heap.size (by omega) (hne7 _ (by omega))).trans BX.out)
    replace PW : Hid (Ps w7 g 0 rr) := Lib.hid (PW.out.keep (fun b hb => g7.block b (by omega) (hne7 b (by omega))))
    replace MW : Hid (Mod [g] w w7) := Lib.hid (MW.out.grown g7 (fun j hj => .inr (by have := (CK.out.own.lt j hj).1; omega)))
    replace CK := Lib.hid (CK.out.app tb_keep tb_mono TY.out H5.out o7 g7 h7)
    clear o7 g7 h7 hne7 RD hzb H5 TY
    repeat (first | (refine sreadxP rfl rfl ?_; apply Exists.intro; apply And.intro; (· (intro W hW; go_simp; try (first | with_reducible rfl | (rw [if_neg (by omega)]; try with_reducible rfl)))); simp only [Act.put, List.setIfInBounds_toArray, List.set_cons_zero, List.set_cons_succ]) | (refine pskip rfl rfl ?_; simp only [Act.put, List.setIfInBounds_toArray, List.set_cons_zero, List.set_cons_succ]))
    refine pdone ?_
    refine last_step rfl (fun K hK => ?_)
    have x0 : w7.cell? ⟨w.heap.size, 0, none⟩ = some (.slice A k c) := by rw [Lib.cell_of_heap BX.out]; rfl
    have fr0 : w7.frozen? ⟨w.heap.size, 0, none⟩ = false := Lib.frozen_of_heap BX.out 0
    go_simp
    refine hK.out _ _ ?_
    clear hK K x0 fr0
    obtain ⟨wc, hw⟩ : ∃ W, w7.setCell ⟨w.heap.size, 0, none⟩ (.slice A7 (k + 1) c7) = W := ⟨_, rfl⟩
    have hzc : wc.heap.size = w7.heap.size := by rw [← hw]; simp
    have m : Mod [w.heap.size] w7 wc := by rw [← hw]; exact (Mod.refl _ _).set (.inl (by simp)) _
    try replace CK := Lib.hid (CK.out.mod tb_keep m (fun b hb => by simp at hb; omega))
    try replace CP := Lib.hid (CP.out.mod pc_keep m (fun b hb => by simp at hb; omega))
    replace BX : Hid (wc.heap[w.heap.size]? = some (.cells #[.slice A7 (k + 1) c7, .slice none 0 0] 26 (0, 0))) := Lib.hid (by rw [← hw]; exact heap_set' BX.out _ 0 rfl)
    replace MW : Hid (Mod [g] w wc) := Lib.hid (by rw [← hw]; exact MW.out.set (.inr (Nat.le_refl _)) _)
    replace PW : Hid (Ps wc g 0 rr) := Lib.hid (by rw [← hw]; exact PW.out.set (by omega) _)
    try rw [hw]
    clear hw m
    have hll := PW.out.lenW
    have hln := HLN.out
    have hlc := HCL.out
    have hl0 := HL0.out
    go_wp2_with fail
    go_roundw
    case rel => exact ⟨f2, a ++ [y], rr, k + 1, A7, c7, _, _, by omega, by omega, HR, BX, CK, PW, MW⟩
    case measure => rw [hll, hln]; omega
end Go.Proofs.YtnbmpfdffoidaaaGreat.Y
namespace Go.Proofs.YtnbmpfdffoidaaaGreat.Y
open Go.RowKit O V S X
theorem box_setY {w : World} {b : Nat} {o : Obj} (h : w.heap[b]? = some o) (b' i : Nat) (hne : b ≠ b') (v : Value) : (w.setCell ⟨b', i, none⟩ v).heap[b]? = some o := (Below.heap_setCell _ _ _ _ hne).trans h
theorem parse1_idle (p q r : Addr) (w : World) :
  CallsD Tryz.prog 16 #[.pointer (some p), .pointer (some q), .pointer (some r)] .returning w fun e u' w' => e = .returned (.tuple #[]) ∧ u' = .returning ∧ w' = w := by
 refine callsD_of_wpS Tryz.func16 rfl fun c₀ cs hu => ?_
 apply wpS_seq
 apply wpS_region
 simp [wpOpsS, go_sem, recoverD, hu, Tryz.ntmps16, Exit.thenS]
 refine wpS_of_wp ?_
 have e : (#[Value.pointer (some p), Value.pointer (some q), Value.pointer (some r)] ++ (Array.replicate 14 undef).setIfInBounds 3 Value.nilIface) = #[Value.pointer (some p), Value.pointer (some q), Value.pointer (some r), undef, undef, undef, Value.nilIface, undef, undef, undef, undef, undef, undef, undef, undef, undef, undef] := by simp [Array.replicate]
 rw [e]
 go_wp2_with fail
 cases c₀
 simp_all [bodyPostS, results, Tryz.results16]
theorem parse1_fault (b2 b3 b4 : Nat) (er p q r : Int) (z0 z1 z2 z3 z4 z5 : Value) (w : World) (h2 : w.heap[b2]? = some (.cells #[z0, z1] 26 (0, 0))) (h3 : w.heap[b3]? = some (.cells #[z2] 27 (0, 0))) (h4 : w.heap[b4]? = some (.cells #[z3, z4, z5] 29 (0, 0))) (h23 : b2 < b3) (h34 : b3 < b4) :
  CallsD Tryz.prog 16 #[.pointer (some ⟨b2, 0, none⟩), .pointer (some ⟨b3, 0, none⟩), .pointer (some ⟨b4, 0, none⟩)] (.panicking [{ v := flt er p q r, recovered := false }]) w fun e u' w' => e = .returned (.tuple #[]) ∧ u' = .panicking [{ v := flt er p q r, recovered := true }] ∧ Mod [b2, b3, b4] w w' ∧ w'.heap[b2]? = some (.cells #[.slice none 0 0, .slice none 0 0] 26 (0, 0)) ∧ w'.heap[b3]? = some (.cells #[nv er] 27 (0, 0)) ∧ w'.heap[b4]? = some (.cells #[nv p, nv q, nv r] 29 (0, 0)) := by
 refine callsD_of_wpS Tryz.func16 rfl fun c₀ cs hu => ?_
 apply wpS_seq
 apply wpS_region
 simp [wpOpsS, go_sem, recoverD, hu, Tryz.ntmps16, Exit.thenS]
 refine wpS_of_wp ?_
 have e : (#[Value.pointer (some ⟨b2, 0, none⟩), Value.pointer (some ⟨b3, 0, none⟩), Value.pointer (some ⟨b4, 0, none⟩)] ++ (Array.replicate 14 undef).setIfInBounds 3 (flt er p q r)) = #[Value.pointer (some ⟨b2, 0, none⟩), Value.pointer (some ⟨b3, 0, none⟩), Value.pointer (some ⟨b4, 0, none⟩), undef, undef, undef, flt er p q r, undef, undef, undef, undef, undef, undef, undef, undef, undef, undef] := by simp [Array.replicate]
 rw [e]
 clear e
 obtain ⟨Q9, hQ9⟩ : ∃ Q9, Q9 = (fun (e : Exit) (a' : Act) (w' : World) => bodyPostS Tryz.prog Tryz.f16 c₀ cs (fun e u' w' => e = Ending.returned (Value.tuple #[]) ∧ u' = FrameMode.panicking [{ v := flt er p q r, recovered := true }] ∧ Mod [b2, b3, b4] w w' ∧ w'.heap[b2]? = some (.cells #[.slice none 0 0, .slice none 0 0] 26 (0, 0)) ∧ w'.heap[b3]? = some (.cells #[nv er] 27 (0, 0)) ∧ w'.heap[b4]? = some (.cells #[nv p, nv q, nv r] 29 (0, 0))) e a' ({ fn := c₀.fn, tmps := c₀.tmps, todo := c₀.todo, defers := c₀.defers, mode := FrameMode.panicking [{ v := flt er p q r, recovered := true }], kind := c₀.kind, roundOf := c₀.roundOf } :: cs) w') := ⟨_, rfl⟩
 rw [← hQ9]
 have HQ := Lib.hid hQ9
 clear hQ9
 have hta : ∀ W, (Instr.typeAssert (.iface 60 (.agg #[nv er, nv p, nv q, nv r])) 20 60 true).run Tryz.prog W = .ok (.tuple #[.agg #[nv er, nv p, nv q, nv r], .bool true]) W := fun W => by kernel_rfl
 unfold flt
 have hlt2 : b2 < w.heap.size := (Array.getElem?_eq_some_iff.1 h2).1
 have hlt3 : b3 < w.heap.size := (Array.getElem?_eq_some_iff.1 h3).1
 have hlt4 : b4 < w.heap.size := (Array.getElem?_eq_some_iff.1 h4).1
 have yf20 := Lib.frozen_of_heap h2 0
 have yf21 := Lib.frozen_of_heap h2 1
 have yf30 := Lib.frozen_of_heap h3 0
 have yf40 := Lib.frozen_of_heap h4 0
 have yf41 := Lib.frozen_of_heap h4 1
 have yf42 := Lib.frozen_of_heap h4 2
 have y20 : w.cell? ⟨b2, 0, none⟩ = some z0 := by rw [Lib.cell_of_heap h2]; rfl
 have y21 : w.cell? ⟨b2, 1, none⟩ = some z1 := by rw [Lib.cell_of_heap h2]; rfl
 have y30 : w.cell? ⟨b3, 0, none⟩ = some z2 := by rw [Lib.cell_of_heap h3]; rfl
 have y40 : w.cell? ⟨b4, 0, none⟩ = some z3 := by rw [Lib.cell_of_heap h4]; rfl
 have y41 : w.cell? ⟨b4, 1, none⟩ = some z4 := by rw [Lib.cell_of_heap h4]; rfl
 have y42 : w.cell? ⟨b4, 2, none⟩ = some z5 := by rw [Lib.cell_of_heap h4]; rfl
 go_wp2_with fail
 go_region
 have hQ9 := HQ.out
 clear HQ
 show Q9 _ _ _
 rw [hQ9]
 cases c₀
 simp only [bodyPostS, results, Tryz.results16]
 refine ⟨trivial, _, rfl, .tuple #[], by simp [go_sem], rfl, rfl, ?_, ?_, ?_, ?_⟩
 ·refine (Mod.alloc ?_ _).drew
  iterate 6 refine Mod.set ?_ (.inl (by simp)) _
  exact Mod.refl _ _
 ·refine alloc_old' (w := _) ?_
  have a0 := heap_set (i := 0) h2 (.slice none 0 0)
  have a1 := heap_set (i := 1) a0 (.slice none 0 0)
  exact box_setY (box_setY (box_setY (box_setY a1 b3 0 (by omega) (nv er)) b4 0 (by omega) (nv p)) b4 1 (by omega) (nv q)) b4 2 (by omega) (nv r)
 ·refine alloc_old' (w := _) ?_
  have a0 := heap_set (i := 0) (box_setY (box_setY h3 b2 0 (by omega) (.slice none 0 0)) b2 1 (by omega) (.slice none 0 0)) (nv er)
  exact box_setY (box_setY (box_setY a0 b4 0 (by omega) (nv p)) b4 1 (by omega) (nv q)) b4 2 (by omega) (nv r)
 ·refine alloc_old' (w := _) ?_
  have a0 := heap_set (i := 0) (box_setY (box_setY (box_setY h4 b2 0 (by omega) (.slice none 0 0)) b2 1 (by omega) (.slice none 0 0)) b3 0 (by omega) (nv er)) (nv p)
  have a1 := heap_set (i := 1) a0 (nv q)
  exact heap_set (i := 2) a1 (nv r)
end Go.Proofs.YtnbmpfdffoidaaaGreat.Y
namespace Go.Proofs.YtnbmpfdffoidaaaGreat.Y
open Go.RowKit O V S X
theorem own_cap2 {w : World} {base e size n c : Nat} {A : Option Addr} {xs : List Value} (h : w.ownsRow base e size (.slice A n c) n xs) : n ≤ c ∧ c ≤ 9223372036854775807 := by
 rcases h.2 with ⟨hv, h0⟩ | ⟨g, cap, cur, hv, _, _, hnc, hm, _⟩
 ·injection hv with _ _ hc
  omega
 ·injection hv with _ _ hc
  unfold maxLen at hm
  omega
theorem all_y (s : List UInt8) (w : World) (hs : s.length ≤ 16384) : Calls Tryz.prog 15 #[.string ⟨s.toArray⟩] w fun e w' => (∃ A n c er a b d, e = .returned (.tuple #[.slice A n c, .int .i64 er, .agg #[nv a, nv b, nv d]]) ∧ AllX s A n er a b d w' ∧ (n ≤ c ∧ c ≤ 9223372036854775807) ∧ ∀ p, A = some p → w.heap.size ≤ p.block) ∧ Below w.heap.size w w' := by
 obtain ⟨o, hu, ho⟩ := LexU.of_lex s
 have hlen := hu.len
 refine (all_any s w (by omega)).mono fun e w' ⟨h, b⟩ => ⟨?_, b⟩
 unfold RetAll at h
 rw [if_neg (by omega)] at h
 by_cases he : (lexS s (s.length + 1) 0).2.1 = 0
 ·rw [if_neg (by simp [he])] at h
  obtain ⟨A, n, c, xs, rfl, h1, h2⟩ := h
  have hr := Rd.of_own h1
  have hl := hr.len_of TkC.size h2 (by omega)
  rw [List.length_map] at hlen
  exact ⟨A, n, c, 0, 0, 0, 0, rfl, ⟨_, o, by rw [he] at hu; exact hu, fun _ => ⟨rfl, rfl, rfl, _, rfl, ⟨⟨xs, hr, h2.imp (TkD.of (s := s))⟩, by omega⟩⟩, fun h => absurd rfl h⟩, own_cap2 h1, fun p hp => by subst hp; have := (h1.lt p.block rfl).1; omega⟩
 ·rw [if_pos he] at h
  have hoff := ho he
  subst h
  have hcl : clampI s ((lexS s (s.length + 1) 0).2.2 : Nat) = s.length - o := by unfold clampI; rw [if_neg (by omega), if_neg (by omega)]; omega
  rw [hcl]
  exact ⟨none, 0, 0, (lexS s (s.length + 1) 0).2.1, _, _, _, rfl, ⟨_, o, hu, fun h => absurd h he, fun _ => ⟨rfl, by omega, rfl⟩⟩, ⟨by omega, by omega⟩, fun p hp => by cases hp⟩
theorem one_newY {w : World} {o : Obj} {k : Nat} (h : k < w.heap.size) : (w.alloc o).heap[k]? = w.heap[k]? := ((Below.refl w.heap.size w).alloc (Nat.le_refl _) o).block k h
def parseT (l : List Tok) : Res Wk := pWork (4 * l.length + 8) l
def noW : Value := .agg #[.slice none 0 0, .slice none 0 0]
def RetP (s : List UInt8) (lo : Nat) (e : Ending) (w' : World) : Prop := ∃ (v : Value) (er p q r : Int) (l : List Tok) (o : Nat) (er0 : Int), e = .returned (.tuple #[v, nv er, .agg #[nv p, nv q, nv r]]) ∧ LexU s l er0 o ∧
 (er0 ≠ 0 → er ≠ 0 ∧ v = noW) ∧ (er0 = 0 → match parseT l with
  | .ok k _ => er = 0 ∧ ∃ S, WkR w' S k v ∧ In lo w' S
  | _ => er ≠ 0 ∧ v = noW)
theorem parse_any (s : List UInt8) (w : World) (hs : s.length ≤ 16384) : Calls Tryz.prog 5 #[.string ⟨s.toArray⟩] w fun e w' => RetP s w.heap.size e w' ∧ Below w.heap.size w w' := by
 have hmf : ∀ (fn : Fn) (first cap : Array Value) (w : World), (Instr.makeFunc fn first cap).run Tryz.prog w = .ok (.func fn first cap) w := fun _ _ _ _ => rfl
 go_enter_defers Tryz.func5, Tryz.ntmps5
 go_wp2_with fail
 obtain ⟨w1, hw1⟩ : ∃ W, ((w.alloc (.cells #[.slice none 0 0, .slice none 0 0] 26)).alloc (.cells #[.int .i64 0] 27)).alloc (.cells #[.int .i64 0, .int .i64 0, .int .i64 0] 29) = W := ⟨_, rfl⟩
 have hb1 : Below w.heap.size w w1 := by rw [← hw1]; repeat (first | exact Below.refl _ _ | refine Below.alloc ?_ (by simp <;> omega) _)
 have X2 : w1.heap[w.heap.size]? = some (.cells #[.slice none 0 0, .slice none 0 0] 26 (0, 0)) := by rw [← hw1]; exact alloc_old' (alloc_old' (alloc_at rfl))
 have X3 : w1.heap[w.heap.size + 1]? = some (.cells #[.int .i64 0] 27 (0, 0)) := by rw [← hw1]; exact alloc_old' (alloc_at (by simp))
 have X4 : w1.heap[w.heap.size + 1 + 1]? = some (.cells #[.int .i64 0, .int .i64 0, .int .i64 0] 29 (0, 0)) := by rw [← hw1]; exact alloc_at (by simp)
 rw [hw1]
 clear hw1
 refine (all_y s w1 hs).mono ?_; rintro e w2 ⟨⟨A, n, c, er, a, b, d, rfl, hx, hn, hA⟩, b2⟩
 have hz0 : w.heap.size + 1 + 1 < w1.heap.size := (Array.getElem?_eq_some_iff.1 X4).1
 have hz2 := b2.size
 have B2 := Lib.hid (hb1.trans (b2.mono hb1.size))
 replace X2 := Lib.hid (box_next X2 b2)
 replace X3 := Lib.hid (box_next X3 b2)
 replace X4 := Lib.hid (box_next X4 b2)
 clear hb1 b2
 have y20 : w2.cell? ⟨w.heap.size, 0, none⟩ = some (.slice none 0 0) := by rw [Lib.cell_of_heap X2.out]; rfl
 have y21 : w2.cell? ⟨w.heap.size, 1, none⟩ = some (.slice none 0 0) := by rw [Lib.cell_of_heap X2.out]; rfl
 have y3 : w2.cell? ⟨w.heap.size + 1, 0, none⟩ = some (.int .i64 0) := by rw [Lib.cell_of_heap X3.out]; rfl
 have y40 : w2.cell? ⟨w.heap.size + 1 + 1, 0, none⟩ = some (.int .i64 0) := by rw [Lib.cell_of_heap X4.out]; rfl
 have y41 : w2.cell? ⟨w.heap.size + 1 + 1, 1, none⟩ = some (.int .i64 0) := by rw [Lib.cell_of_heap X4.out]; rfl
 have y42 : w2.cell? ⟨w.heap.size + 1 + 1, 2, none⟩ = some (.int .i64 0) := by rw [Lib.cell_of_heap X4.out]; rfl
 have yf20 := Lib.frozen_of_heap X2.out 0
 have yf21 := Lib.frozen_of_heap X2.out 1
 have yf30 := Lib.frozen_of_heap X3.out 0
 have yf40 := Lib.frozen_of_heap X4.out 0
 have yf41 := Lib.frozen_of_heap X4.out 1
 have yf42 := Lib.frozen_of_heap X4.out 2
 have HX := Lib.hid hx
 have HA := Lib.hid hA
 have hz1 : w.heap.size + 1 + 1 < w1.heap.size := hz0
 have hz12 : w1.heap.size ≤ w2.heap.size := hz2
 clear hA
 have HN := Lib.hid hn
 clear hx hn
 have hz : w.heap.size + 1 + 1 < w2.heap.size := (Array.getElem?_eq_some_iff.1 X4.out).1
 by_cases h0 : er = 0
 ·subst h0
  go_wp2_with fail
  obtain ⟨V, hV⟩ : ∃ V, (((w2.setCell ⟨w.heap.size + 1, 0, none⟩ (.int .i64 0)).setCell ⟨w.heap.size + 1 + 1, 0, none⟩ (.int .i64 a)).setCell ⟨w.heap.size + 1 + 1, 1, none⟩ (.int .i64 b)).setCell ⟨w.heap.size + 1 + 1, 2, none⟩ (.int .i64 d) = V := ⟨_, rfl⟩
  have Z2 : V.heap[w.heap.size]? = some (.cells #[.slice none 0 0, .slice none 0 0] 26 (0, 0)) := by
   rw [← hV]
   exact box_setY (box_setY (box_setY (box_setY X2.out _ _ (by omega) _) _ _ (by omega) _) _ _ (by omega) _) _ _ (by omega) _
  have Z3 : V.heap[w.heap.size + 1]? = some (.cells #[.int .i64 0] 27 (0, 0)) := by
   rw [← hV]
   exact box_setY (box_setY (box_setY (heap_set (i := 0) X3.out (.int .i64 0)) _ _ (by omega) _) _ _ (by omega) _) _ _ (by omega) _
  have Z4 : V.heap[w.heap.size + 1 + 1]? = some (.cells #[.int .i64 a, .int .i64 b, .int .i64 d] 29 (0, 0)) := by
   rw [← hV]
   exact heap_set (i := 2) (heap_set (i := 1) (heap_set (i := 0) (box_setY X4.out _ _ (by omega) _) (.int .i64 a)) (.int .i64 b)) (.int .i64 d)
  have hVk : ∀ k, w1.heap.size ≤ k → V.heap[k]? = w2.heap[k]? := fun k hk => by
   rw [← hV]
   rw [Below.heap_setCell _ _ _ _ (by simp only; omega), Below.heap_setCell _ _ _ _ (by simp only; omega), Below.heap_setCell _ _ _ _ (by simp only; omega), Below.heap_setCell _ _ _ _ (by simp only; omega)]
  have hVs : V.heap.size = w2.heap.size := by rw [← hV]; simp
  have BV : Hid (Below w.heap.size w V) := Lib.hid (by
   rw [← hV]
   repeat (first | (with_reducible exact B2.out) | refine Below.setCell ?_ (by simp only; omega) _))
  rw [hV]
  clear hV X2 X3 X4 y20 y21 y3 y40 y41 y42 yf20 yf21 yf30 yf40 yf41 yf42
  refine (at_any s s.length V (by omega)).mono ?_; rintro e w3 ⟨rfl, b3⟩
  have hcl : plc s (clampI s (s.length : Nat)) = .agg #[nv (s.length : Nat), nv (lineOf s s.length : Nat), nv ((s.length : Int) - (startOf s s.length : Int) + 1)] := by
   have : clampI s (s.length : Nat) = s.length := by unfold clampI; rw [if_neg (by omega), if_neg (by omega)]; omega
   rw [this]; rfl
  rw [hcl]
  obtain ⟨pl, hpl⟩ : ∃ z : Int, z = (lineOf s s.length : Nat) := ⟨_, rfl⟩
  obtain ⟨pc, hpc⟩ : ∃ z : Int, z = ((s.length : Int) - (startOf s s.length : Int) + 1) := ⟨_, rfl⟩
  rw [← hpl, ← hpc]
  clear hcl hpl hpc
  replace Z2 := Lib.hid (box_next Z2 b3)
  replace Z3 := Lib.hid (box_next Z3 b3)
  replace Z4 := Lib.hid (box_next Z4 b3)
  have hs3 := b3.size
  have K3 : Hid (∀ k, w1.heap.size ≤ k → k < w2.heap.size → w3.heap[k]? = w2.heap[k]?) := Lib.hid fun k h1 h2 => (b3.block k (by omega)).trans (hVk k h1)
  have B3 := Lib.hid (BV.out.trans (b3.mono BV.out.size))
  clear b3 hVk BV
  go_wp2_with fail
  obtain ⟨w4, hw4⟩ : ∃ W, w3.alloc (Obj.cells #[.slice A n c, nv (s.length : Nat), nv pl, nv pc, .int .i64 0] 64) = W := ⟨_, rfl⟩
  obtain ⟨l, o, hu, hx1, _⟩ := HX.out
  obtain ⟨rfl, rfl, rfl, l', hm, hr⟩ := hx1 rfl
  have hps : Ps w4 w3.heap.size 0 l := by
   rw [← hw4]
   refine ⟨A, n, c, (s.length : Nat), pl, pc, alloc_at rfl, ⟨?_, HN.out⟩, (Y.LexU.z hu).1.w, fun t ht => by have := Y.LexU.txt hu t ht; omega⟩
   obtain ⟨xs, h1, h2⟩ := hr.rd
   refine ⟨xs, ⟨h1.1, fun hp => ?_⟩, hm ▸ tks_core h2⟩
   obtain ⟨b, off, e, hb, hc⟩ := h1.2 hp
   refine ⟨b, off, e, by omega, fun j hj => ?_⟩
   have hbA := HA.out _ e
   refine (World.cell?_of_block (a := ⟨b, off + j, none⟩) ?_).trans (hc j hj)
   rw [← K3.out b hbA hb]
   exact one_newY (by simp only; omega)
  have B4 : Hid (Below w.heap.size w w4) := Lib.hid (by rw [← hw4]; exact B3.out.alloc (by omega) _)
  replace Z2 : Hid (w4.heap[w.heap.size]? = some (.cells #[.slice none 0 0, .slice none 0 0] 26 (0, 0))) := Lib.hid (by rw [← hw4]; exact alloc_old' Z2.out)
  replace Z3 : Hid (w4.heap[w.heap.size + 1]? = some (.cells #[.int .i64 0] 27 (0, 0))) := Lib.hid (by rw [← hw4]; exact alloc_old' Z3.out)
  replace Z4 : Hid (w4.heap[w.heap.size + 1 + 1]? = some (.cells #[.int .i64 0, .int .i64 0, .int .i64 0] 29 (0, 0))) := Lib.hid (by rw [← hw4]; exact alloc_old' Z4.out)
  have hs4 : w3.heap.size < w4.heap.size := by rw [← hw4]; simp
  rw [hw4]
  clear hw4 hr hm HX hx1 K3
  have hno : parseT l ≠ .oof := fun h => by
   have := work_snd (f := 4 * l.length + 8) (Y.LexU.z hu).1.w (Nat.le_refl _)
   rw [show pWork (4 * l.length + 8) l = .oof from h] at this
   exact this
  have HU := Lib.hid hu
  refine (work_any (4 * l.length + 8) w3.heap.size l w4 hps hno).mono ?_; rintro e w5 hN
  have m := Lib.hid hN.1
  have Q5 : Hid (Below w.heap.size w w5) := Lib.hid (B4.out.trans (m.out.below (by omega) (fun x hx => by simp at hx; omega)))
  replace Z2 := Lib.hid (m.out.box Z2.out (by simp; omega))
  replace Z3 := Lib.hid (m.out.box Z3.out (by simp; omega))
  replace Z4 := Lib.hid (m.out.box Z4.out (by simp; omega))
  have hs5 := m.out.size
  rcases hN.parts with ⟨hp, er, ep, eq, ez, hne, rfl⟩ | ⟨k, r, v, hp, pN, rfl, hg⟩
  ·clear hN hps
   have HNE := Lib.hid hne
   have HP := Lib.hid hp
   clear hne hp
   go_wp2_with fail
   refine leaves_cons (f := 16) (args := #[.pointer (some ⟨w.heap.size, 0, none⟩), .pointer (some ⟨w.heap.size + 1, 0, none⟩), .pointer (some ⟨w.heap.size + 1 + 1, 0, none⟩)]) (by simp) (by simp [go_sem]) ?_
   refine (parse1_fault _ _ _ er ep eq ez _ _ _ _ _ _ w5 Z2.out Z3.out Z4.out (by omega) (by omega)).mono ?_
   rintro e u' w6 ⟨rfl, rfl, m6, q2, q3, q4⟩
   have hfin : RetP s w.heap.size (.returned (.tuple #[noW, nv er, .agg #[nv ep, nv eq, nv ez]])) w6 ∧ Below w.heap.size w w6 := by
    refine ⟨⟨noW, er, ep, eq, ez, l, o, 0, rfl, HU.out, fun h => absurd rfl h, fun _ => ?_⟩, Q5.out.trans (m6.below (by have := Q5.out.size; omega) (fun x hx => by simp at hx; omega))⟩
    rw [show parseT l = .bad from HP.out]
    exact ⟨HNE.out, rfl⟩
   have HF := Lib.hid hfin
   clear hfin
   have y20 : w6.cell? ⟨w.heap.size, 0, none⟩ = some (.slice none 0 0) := by rw [Lib.cell_of_heap q2]; rfl
   have y21 : w6.cell? ⟨w.heap.size, 1, none⟩ = some (.slice none 0 0) := by rw [Lib.cell_of_heap q2]; rfl
   have y3 : w6.cell? ⟨w.heap.size + 1, 0, none⟩ = some (.int .i64 er) := by rw [Lib.cell_of_heap q3]; rfl
   have y40 : w6.cell? ⟨w.heap.size + 1 + 1, 0, none⟩ = some (.int .i64 ep) := by rw [Lib.cell_of_heap q4]; rfl
   have y41 : w6.cell? ⟨w.heap.size + 1 + 1, 1, none⟩ = some (.int .i64 eq) := by rw [Lib.cell_of_heap q4]; rfl
   have y42 : w6.cell? ⟨w.heap.size + 1 + 1, 2, none⟩ = some (.int .i64 ez) := by rw [Lib.cell_of_heap q4]; rfl
   simp [Leaves, settle, results, Tryz.results5, go_sem, y20, y21, y3, y40, y41, y42]
   exact HF.out
  ·obtain ⟨S, ⟨A', c', es, B', d', fs, rfl, r1, r2, r3⟩, hin⟩ := hg
   have HG : Hid (WkR w5 S k (.agg #[.slice A' k.tables.length c', .slice B' k.procs.length d']) ∧ In w4.heap.size w5 S) := Lib.hid ⟨⟨A', c', es, B', d', fs, rfl, r1, r2, r3⟩, hin⟩
   have HP := Lib.hid hp
   clear hN hps r1 r2 r3 hin hp pN
   have yf20 := Lib.frozen_of_heap Z2.out 0
   have yf21 := Lib.frozen_of_heap Z2.out 1
   have yf30 := Lib.frozen_of_heap Z3.out 0
   have yf40 := Lib.frozen_of_heap Z4.out 0
   have yf41 := Lib.frozen_of_heap Z4.out 1
   have yf42 := Lib.frozen_of_heap Z4.out 2
   have y20 : w5.cell? ⟨w.heap.size, 0, none⟩ = some (.slice none 0 0) := by rw [Lib.cell_of_heap Z2.out]; rfl
   have y21 : w5.cell? ⟨w.heap.size, 1, none⟩ = some (.slice none 0 0) := by rw [Lib.cell_of_heap Z2.out]; rfl
   have y3 : w5.cell? ⟨w.heap.size + 1, 0, none⟩ = some (.int .i64 0) := by rw [Lib.cell_of_heap Z3.out]; rfl
   have y40 : w5.cell? ⟨w.heap.size + 1 + 1, 0, none⟩ = some (.int .i64 0) := by rw [Lib.cell_of_heap Z4.out]; rfl
   have y41 : w5.cell? ⟨w.heap.size + 1 + 1, 1, none⟩ = some (.int .i64 0) := by rw [Lib.cell_of_heap Z4.out]; rfl
   have y42 : w5.cell? ⟨w.heap.size + 1 + 1, 2, none⟩ = some (.int .i64 0) := by rw [Lib.cell_of_heap Z4.out]; rfl
   go_wp2_with fail
   refine leaves_cons (f := 16) (args := #[.pointer (some ⟨w.heap.size, 0, none⟩), .pointer (some ⟨w.heap.size + 1, 0, none⟩), .pointer (some ⟨w.heap.size + 1 + 1, 0, none⟩)]) (by simp) (by simp [go_sem]) ?_
   refine (parse1_idle _ _ _ _).mono ?_
   rintro e u' w6 ⟨rfl, rfl, rfl⟩
   have q2 := box_setY (box_setY (box_setY (box_setY (heap_set (i := 1) (heap_set (i := 0) Z2.out (.slice A' k.tables.length c')) (.slice B' k.procs.length d')) (w.heap.size + 1) 0 (by omega) (.int .i64 0)) (w.heap.size + 1 + 1) 0 (by omega) (.int .i64 0)) (w.heap.size + 1 + 1) 1 (by omega) (.int .i64 0)) (w.heap.size + 1 + 1) 2 (by omega) (.int .i64 0)
   have q3 := box_setY (box_setY (box_setY (heap_set (i := 0) (box_setY (box_setY Z3.out w.heap.size 0 (by omega) (.slice A' k.tables.length c')) w.heap.size 1 (by omega) (.slice B' k.procs.length d')) (.int .i64 0)) (w.heap.size + 1 + 1) 0 (by omega) (.int .i64 0)) (w.heap.size + 1 + 1) 1 (by omega) (.int .i64 0)) (w.heap.size + 1 + 1) 2 (by omega) (.int .i64 0)
   have q4 := heap_set (i := 2) (heap_set (i := 1) (heap_set (i := 0) (box_setY (box_setY (box_setY Z4.out w.heap.size 0 (by omega) (.slice A' k.tables.length c')) w.heap.size 1 (by omega) (.slice B' k.procs.length d')) (w.heap.size + 1) 0 (by omega) (.int .i64 0)) (.int .i64 0)) (.int .i64 0)) (.int .i64 0)
   obtain ⟨w6, hw6⟩ : ∃ W, (((((w5.setCell ⟨w.heap.size, 0, none⟩ (.slice A' k.tables.length c')).setCell ⟨w.heap.size, 1, none⟩ (.slice B' k.procs.length d')).setCell ⟨w.heap.size + 1, 0, none⟩ (.int .i64 0)).setCell ⟨w.heap.size + 1 + 1, 0, none⟩ (.int .i64 0)).setCell ⟨w.heap.size + 1 + 1, 1, none⟩ (.int .i64 0)).setCell ⟨w.heap.size + 1 + 1, 2, none⟩ (.int .i64 0) = W := ⟨_, rfl⟩
   have hk6 : ∀ x, w.heap.size + 1 + 1 < x → w6.heap[x]? = w5.heap[x]? := fun x hx => by
    rw [← hw6]
    iterate 6 rw [Below.heap_setCell _ _ _ _ (by simp only; omega)]
   have hs6 : w6.heap.size = w5.heap.size := by rw [← hw6]; simp
   have B6 : Below w.heap.size w w6 := by
    rw [← hw6]
    repeat (first | (with_reducible exact Q5.out) | refine Below.setCell ?_ (by simp only; omega) _)
   have hfin : RetP s w.heap.size (.returned (.tuple #[.agg #[.slice A' k.tables.length c', .slice B' k.procs.length d'], nv 0, .agg #[nv 0, nv 0, nv 0]])) w6 ∧ Below w.heap.size w w6 := by
    refine ⟨⟨_, 0, 0, 0, 0, l, o, 0, rfl, HU.out, fun h => absurd rfl h, fun _ => ?_⟩, B6⟩
    rw [show parseT l = .ok k r from HP.out]
    refine ⟨rfl, S, HG.out.1.keep fun x hx => hk6 x (by have := (HG.out.2 x hx).1; omega), fun x hx => ?_⟩
    have := HG.out.2 x hx
    omega
   have HF := Lib.hid hfin
   clear hfin y20 y21 y3 y40 y41 y42
   rw [hw6] at q2 q3 q4 ⊢
   have y20 : w6.cell? ⟨w.heap.size, 0, none⟩ = some (.slice A' k.tables.length c') := by rw [Lib.cell_of_heap q2]; rfl
   have y21 : w6.cell? ⟨w.heap.size, 1, none⟩ = some (.slice B' k.procs.length d') := by rw [Lib.cell_of_heap q2]; rfl
   have y3 : w6.cell? ⟨w.heap.size + 1, 0, none⟩ = some (.int .i64 0) := by rw [Lib.cell_of_heap q3]; rfl
   have y40 : w6.cell? ⟨w.heap.size + 1 + 1, 0, none⟩ = some (.int .i64 0) := by rw [Lib.cell_of_heap q4]; rfl
   have y41 : w6.cell? ⟨w.heap.size + 1 + 1, 1, none⟩ = some (.int .i64 0) := by rw [Lib.cell_of_heap q4]; rfl
   have y42 : w6.cell? ⟨w.heap.size + 1 + 1, 2, none⟩ = some (.int .i64 0) := by rw [Lib.cell_of_heap q4]; rfl
   simp [Leaves, settle, results, Tryz.results5, go_sem, y20, y21, y3, y40, y41, y42]
   exact HF.out
 ·have d0 : (er != 0) = true := by simp [h0]
  go_wp2_with fail
  go_region
  go_wp2_with fail
  have q2 := (box_setY (box_setY (box_setY (box_setY (heap_set (i := 1) (heap_set (i := 0) (box_setY (box_setY (box_setY (box_setY X2.out (w.heap.size + 1) 0 (by omega) (.int .i64 er)) (w.heap.size + 1 + 1) 0 (by omega) (.int .i64 a)) (w.heap.size + 1 + 1) 1 (by omega) (.int .i64 b)) (w.heap.size + 1 + 1) 2 (by omega) (.int .i64 d)) (.slice none 0 0)) (.slice none 0 0)) (w.heap.size + 1) 0 (by omega) (.int .i64 er)) (w.heap.size + 1 + 1) 0 (by omega) (.int .i64 a)) (w.heap.size + 1 + 1) 1 (by omega) (.int .i64 b)) (w.heap.size + 1 + 1) 2 (by omega) (.int .i64 d))
  have q3 := (box_setY (box_setY (box_setY (heap_set (i := 0) (box_setY (box_setY (box_setY (box_setY (box_setY (heap_set (i := 0) X3.out (.int .i64 er)) (w.heap.size + 1 + 1) 0 (by omega) (.int .i64 a)) (w.heap.size + 1 + 1) 1 (by omega) (.int .i64 b)) (w.heap.size + 1 + 1) 2 (by omega) (.int .i64 d)) (w.heap.size) 0 (by omega) (.slice none 0 0)) (w.heap.size) 1 (by omega) (.slice none 0 0)) (.int .i64 er)) (w.heap.size + 1 + 1) 0 (by omega) (.int .i64 a)) (w.heap.size + 1 + 1) 1 (by omega) (.int .i64 b)) (w.heap.size + 1 + 1) 2 (by omega) (.int .i64 d))
  have q4 := (heap_set (i := 2) (heap_set (i := 1) (heap_set (i := 0) (box_setY (box_setY (box_setY (heap_set (i := 2) (heap_set (i := 1) (heap_set (i := 0) (box_setY X4.out (w.heap.size + 1) 0 (by omega) (.int .i64 er)) (.int .i64 a)) (.int .i64 b)) (.int .i64 d)) (w.heap.size) 0 (by omega) (.slice none 0 0)) (w.heap.size) 1 (by omega) (.slice none 0 0)) (w.heap.size + 1) 0 (by omega) (.int .i64 er)) (.int .i64 a)) (.int .i64 b)) (.int .i64 d))
  obtain ⟨V6, hV6⟩ : ∃ W, ((((((((((w2.setCell ⟨w.heap.size + 1, 0, none⟩ (.int .i64 er)).setCell ⟨w.heap.size + 1 + 1, 0, none⟩ (.int .i64 a)).setCell ⟨w.heap.size + 1 + 1, 1, none⟩ (.int .i64 b)).setCell ⟨w.heap.size + 1 + 1, 2, none⟩ (.int .i64 d)).setCell ⟨w.heap.size, 0, none⟩ (.slice none 0 0)).setCell ⟨w.heap.size, 1, none⟩ (.slice none 0 0)).setCell ⟨w.heap.size + 1, 0, none⟩ (.int .i64 er)).setCell ⟨w.heap.size + 1 + 1, 0, none⟩ (.int .i64 a)).setCell ⟨w.heap.size + 1 + 1, 1, none⟩ (.int .i64 b)).setCell ⟨w.heap.size + 1 + 1, 2, none⟩ (.int .i64 d)) = W := ⟨_, rfl⟩
  have B6 : Below w.heap.size w V6.drew := by
   rw [← hV6]
   refine Below.drew ?_
   repeat (first | (with_reducible exact B2.out) | refine Below.setCell ?_ (by simp only; omega) _)
  rw [hV6] at q2 q3 q4 ⊢
  clear hV6
  obtain ⟨w6, hw6⟩ : ∃ W, V6.drew = W := ⟨_, rfl⟩
  have hk6 : ∀ k : Nat, w6.heap[k]? = V6.heap[k]? := fun k => by rw [← hw6]; rfl
  rw [← hk6] at q2 q3 q4
  rw [hw6] at B6 ⊢
  obtain ⟨l, o, hu, _, hx2⟩ := HX.out
  have hfin : RetP s w.heap.size (.returned (.tuple #[noW, nv er, .agg #[nv a, nv b, nv d]])) w6 ∧ Below w.heap.size w w6 := ⟨⟨noW, er, a, b, d, l, o, er, rfl, hu, fun _ => ⟨h0, rfl⟩, fun h => absurd h h0⟩, B6⟩
  have HF := Lib.hid hfin
  clear hfin y20 y21 y3 y40 y41 y42
  have y20 : w6.cell? ⟨w.heap.size, 0, none⟩ = some (.slice none 0 0) := by rw [Lib.cell_of_heap q2]; rfl
  have y21 : w6.cell? ⟨w.heap.size, 1, none⟩ = some (.slice none 0 0) := by rw [Lib.cell_of_heap q2]; rfl
  have y3 : w6.cell? ⟨w.heap.size + 1, 0, none⟩ = some (.int .i64 er) := by rw [Lib.cell_of_heap q3]; rfl
  have y40 : w6.cell? ⟨w.heap.size + 1 + 1, 0, none⟩ = some (.int .i64 a) := by rw [Lib.cell_of_heap q4]; rfl
  have y41 : w6.cell? ⟨w.heap.size + 1 + 1, 1, none⟩ = some (.int .i64 b) := by rw [Lib.cell_of_heap q4]; rfl
  have y42 : w6.cell? ⟨w.heap.size + 1 + 1, 2, none⟩ = some (.int .i64 d) := by rw [Lib.cell_of_heap q4]; rfl
  simp [Leaves, bodyPostD, results, Tryz.results5, go_sem, y20, y21, y3, y40, y41, y42]
  exact HF.out
end Go.Proofs.YtnbmpfdffoidaaaGreat.Y
