/- Texts of the proof, joined: SynBlk2. -/
import Derived.Test.YtnbmpfdffoidaaaGreatDoorBk23
set_option linter.unusedVariables false
set_option linter.unusedSimpArgs false
set_option maxHeartbeats 8000000
set_option maxRecDepth 100000
namespace Go.Proofs.YtnbmpfdffoidaaaGreatDoor.Y
open Go.RowKit O V S X
theorem block1_any (f : Nat) (hS : ∀ f', f' ≤ f → SC f') (g d b0 b1 : Nat) (l : List Tok) (w : World) (h : Ps w g d l) (hd : d ≤ 16) (hno : pStmts f d .nil l ≠ .oof) (h0 : w.heap[b0]? = some (.cells #[.pointer (some ⟨g, 0, none⟩)] 51 (0, 0))) (h1 : w.heap[b1]? = some (.cells #[.slice none 0 0] 39 (0, 0))) (hg0' : g < b0) (hb01' : b0 < b1) :
    Calls Tryz.prog 140 #[.pointer (some ⟨b0, 0, none⟩), .pointer (some ⟨b1, 0, none⟩)] w (Out [g, b1] g d w (pStmts f d .nil l) fun b w' v => v = .tuple #[] ∧ ∃ k A c xs S, Bk w w' g b0 b1 k A c b xs S) := by
  obtain ⟨RT, hRT⟩ : ∃ RT, pStmts f d .nil l = RT := ⟨_, rfl⟩
  rw [hRT] at hno ⊢
  have HR0 := Lib.hid hRT
  have HNO := Lib.hid hno
  have P0 := Lib.hid h
  have HSA := Lib.hid hS
  have hb0 : b0 < w.heap.size := (Array.getElem?_eq_some_iff.1 h0).1
  have hb1 : b1 < w.heap.size := (Array.getElem?_eq_some_iff.1 h1).1
  have hgl : g < w.heap.size := by omega
  have hg0 : g ≠ b0 := by omega
  have hg1' : g ≠ b1 := by omega
  have hb01 : b0 ≠ b1 := by omega
  have BK0 : Hid (Bk w w g b0 b1 0 none 0 .nil [] (fun _ => False)) := Lib.hid ⟨h1, h0, World.ownsRow_nil _ _ _ _, rfl, fun _ h => h.elim, Mod.refl _ _, rfl⟩
  clear hRT hno h hS h0 h1
  go_enter Tryz.func140, Tryz.ntmps140
  go_wp2_with fail
  go_loopw [12] (fun _ wr => ∃ (f' : Nat) (a : Sts) (l' : List Tok) (k : Nat) (A : Option Addr) (c : Nat) (xs : List Value) (S : Nat → Prop), f' ≤ f ∧ k ≤ 24 ∧ Hid (pStmts f' d a l' = RT) ∧ Hid (Bk w wr g b0 b1 k A c a xs S) ∧ Hid (Ps wr g d l')) (fun _ wr => lenW wr g)
  case atStart => exact ⟨f, .nil, l, 0, none, 0, [], _, Nat.le_refl _, by omega, HR0, BK0, P0⟩
  case round =>
    obtain ⟨f', a, l', k, A, c, xs, S, hf', hk24, HR, BKr, PWr⟩ := hrel
    clear HR0 BK0 P0
    cases f' with
    | zero => exact absurd (HR.out.symm.trans (by rw [pStmts])) HNO.out
    | succ f2 =>
      have hR1 := HR.out
      rw [pStmts] at hR1
      have q0 : wr.cell? ⟨b0, 0, none⟩ = some (.pointer (some ⟨g, 0, none⟩)) := by rw [Lib.cell_of_heap BKr.out.p]; rfl
      have HM0 := Lib.hid BKr.out.mod
      obtain ⟨PA, pn, pc, pa, pb, pe, hp⟩ := PWr.out
      have hpl := hp.row.len
      have px0 := hp.cells.1.1
      clear hp
      cases l' with
      | nil =>
        obtain rfl : pn = 0 := by simpa using hpl.symm
        rw [if_pos (.inl rfl)] at hR1
        subst hR1
        go_wp2_with fail
        go_end0
        exact ⟨BKr.out.mod, PWr.out, _, rfl, rfl, k, A, c, xs, S, BKr.out⟩
      | cons t0 l0 =>
        have hpn : 0 < pn := by simp at hpl; omega
        have dp : decide ((pn : Int) > 0) = true := by simp; omega
        clear hpl
        obtain ⟨l', hl'⟩ : ∃ l', t0 :: l0 = l' := ⟨_, rfl⟩
        have hnl : l' ≠ [] := by rw [← hl']; simp
        have hlp : 0 < l'.length := by rw [← hl']; simp
        rw [hl'] at hR1 PWr
        clear hl'
        go_wp2_with fail
        refine (is_any g d l' [125] _ PWr.out).mono ?_; rintro e w2 ⟨rfl, rfl⟩
        cases h125 : isT l' [125] with
        | true =>
          rw [if_pos (.inr h125)] at hR1
          subst hR1
          go_wp2_with fail
          go_end0
          exact ⟨BKr.out.mod, PWr.out, _, rfl, rfl, k, A, c, xs, S, BKr.out⟩
        | false =>
          rw [if_neg (by rintro (e | e); · exact hnl e
                         · rw [h125] at e; cases e)] at hR1
          have HR1 := Lib.hid hR1
          have HLN := Lib.hid (PWr.out.lenW)
          have q1 : w2.cell? ⟨b1, 0, none⟩ = some (.slice A k c) := by rw [Lib.cell_of_heap BKr.out.x]; rfl
          have hal : a.len = k := BKr.out.len
          have HAL := Lib.hid hal
          clear hR1 px0 dp hpn hal
          go_wp2_with fail
          refine (room_any g d k 24 l' _ PWr.out (by omega) (by omega)).mono ?_; rintro e w3 hN
          have m := hN.1
          replace BKr := Lib.hid (BKr.out.next m hgl hg0 hg1')
          rcases hN.parts with ⟨hp, er, ep, eq, ez, hne, rfl⟩ | ⟨u, r, v, hp, pN, rfl, rfl⟩
          · have HN := Lib.hid hne
            clear hne
            have hq := HR1.out
            rw [HAL.out, hp] at hq
            simp only [bind_bad] at hq
            subst hq
            go_wp2_with fail
            exact ⟨rfl, BKr.out.mod, er, ep, eq, ez, HN.out, rfl⟩
          have hkl : k < 24 ∧ r = l' := by
            unfold room at hp
            split at hp
            · cases hp
            · injection hp with _ h2
              exact ⟨by omega, h2.symm⟩
          obtain ⟨hkl, rfl⟩ := hkl
          have hq := HR1.out
          rw [HAL.out, hp] at hq
          simp only [bind_ok] at hq
          have HR2 := Lib.hid hq
          have HNS := Lib.hid (bind_no hq HNO.out)
          have HSC := Lib.hid (HSA.out f2 (by omega))
          obtain ⟨l', hl'⟩ : ∃ l', r = l' := ⟨_, rfl⟩
          rw [hl'] at HR2 HNS pN HLN hlp
          replace PWr := Lib.hid pN
          replace HM0 := Lib.hid BKr.out.mod
          clear hN m hp pN hq hl' q0 q1 HR1 HR hnl h125 HSA
          go_wp2_with fail
          refine wp_region_plan [b0] (.read 1 (.three 0 2 4 (.read 3 (.two 2 4 (.call 4 (.call 5 (.read 6 (.two 7 8 (.call 8 .done) (.call 7 .done))))) (.call 2 (.call 5 (.read 6 (.two 7 8 (.call 8 .done) (.call 7 .done))))))) (.two 0 4 (.read 3 (.call 4 (.call 5 (.read 6 (.two 7 8 (.call 8 .done) (.call 7 .done)))))) (.call 0 (.read 3 (.call 5 (.read 6 (.two 7 8 (.call 8 .done) (.call 7 .done))))))) (.two 0 2 (.read 3 (.call 2 (.call 5 (.read 6 (.two 7 8 (.call 8 .done) (.call 7 .done)))))) (.call 0 (.read 3 (.call 5 (.read 6 (.two 7 8 (.call 8 .done) (.call 7 .done))))))))) (by kernel_rfl) (by kernel_rfl) (fun _ _ d _ _ h => by cases d <;> exact h) ?_
          refine pwith (fun W hW => (show W.cell? ⟨b0, 0, none⟩ = some (.pointer (some ⟨g, 0, none⟩)) from by rw [Lib.cell_of_heap ((hW b0 (by simp)).trans BKr.out.p)]; rfl)) (fun k4 => ?_)
          repeat (first | (refine sreadxP rfl rfl ?_; apply Exists.intro; apply And.intro; (· (intro W hW; go_simp; try (first | with_reducible rfl | (rw [if_neg (by omega)]; try with_reducible rfl)))); simp only [Act.put, List.setIfInBounds_toArray, List.set_cons_zero, List.set_cons_succ]) | (refine pskip rfl rfl ?_; simp only [Act.put, List.setIfInBounds_toArray, List.set_cons_zero, List.set_cons_succ]))
          clear k4
          have BKq : Hid (Bk w w3.drew g b0 b1 k A c a xs S) := Lib.hid (BKr.out.next (Mod.refl _ _).drew hgl hg0 hg1')
          have PWq : Hid (Ps w3.drew g d l') := Lib.hid (PWr.out.next (Below.refl _ _).drew)
          replace HM0 : Hid (Mod [g, b1] w w3.drew) := Lib.hid BKq.out.mod
          clear BKr PWr
          obtain ⟨wa, hwa⟩ : ∃ wa, w3.drew = wa := ⟨_, rfl⟩
          rw [hwa] at BKq PWq HM0 ⊢
          clear hwa
          refine pthree rfl rfl rfl rfl rfl rfl ?_ ?_ ?_
          · intro K hK
            have y17 : wa.cell? ⟨b1, 0, none⟩ = some (.slice A k c) := by rw [Lib.cell_of_heap BKq.out.x]; rfl
            go_simp
            refine hK.out _ _ (KB.refl _ _) ?_
            clear y17
            clear hK K
            try simp only [Act.put, List.setIfInBounds_toArray, List.set_cons_zero, List.set_cons_succ]
            repeat (first | (refine sreadxP rfl rfl ?_; apply Exists.intro; apply And.intro; (· (intro W hW; go_simp; try (first | with_reducible rfl | (rw [if_neg (by omega)]; try with_reducible rfl)))); simp only [Act.put, List.setIfInBounds_toArray, List.set_cons_zero, List.set_cons_succ]) | (refine pskip rfl rfl ?_; simp only [Act.put, List.setIfInBounds_toArray, List.set_cons_zero, List.set_cons_succ]))
            refine ptwo rfl rfl rfl rfl ?_ ?_
            · intro K hK
              go_simp
              refine (HSC.out g d l' wa PWq.out hd HNS.out).mono ?_; rintro e wb hN
              have m := hN.1
              have hk9 : KB [b0] wa wb := fun b hb => m.block b (by simp at hb; rw [hb]; exact (Array.getElem?_eq_some_iff.1 BKq.out.p).1) (by simp at hb ⊢; omega)
              rcases hN.parts with ⟨hp, er, ep, eq, ez, hne, rfl⟩ | ⟨s, r, v, hp, pN, rfl, vs, rfl, hT⟩
              · have HN := Lib.hid hne
                clear hne
                have hq := HR2.out
                rw [hp] at hq
                simp only [bind_bad] at hq
                subst hq
                have hmw := (BKq.out.next m hgl hg0 hg1').mod
                go_wp2_with fail
                exact ⟨rfl, hmw, er, ep, eq, ez, HN.out, rfl⟩
              have hq := HR2.out
              rw [hp] at hq
              simp only [bind_ok] at hq
              have HR3 := Lib.hid hq
              have hlf := (stmt_left f2).1 d l'
              rw [hp] at hlf
              have HLF : Hid (r.length ≤ l'.length - 1) := Lib.hid hlf
              obtain ⟨A5, B5, E5, n5, c5, m5, d5, k5, f5, p5, q5, z5, rfl⟩ := hT.form
              have YTq := Lib.hid (Yt.made BKq.out hT)
              replace BKq := Lib.hid (BKq.out.next m hgl hg0 hg1')
              try replace ZRq := Lib.hid (m.box ZRq.out (by simp; omega))
              replace PWq := Lib.hid pN
              have hv : Value.agg (stV s (.slice A5 n5 c5) (.slice B5 m5 d5) (.slice E5 k5 f5) p5 q5 z5).toArray = .agg #[nv (stK s), sv (stN s), sv (stT s), sv (stC s), nv (stI s), .slice A5 n5 c5, .slice B5 m5 d5, .slice E5 k5 f5, nv p5, nv q5, nv z5] := rfl
              rw [hv]
              clear hv hN m hp pN hq hT hlf
              go_wp2_with fail
              refine hK.out _ _ hk9 ?_
              clear hk9
              clear hK K
              try simp only [Act.put, List.setIfInBounds_toArray, List.set_cons_zero, List.set_cons_succ]
              refine pcall rfl rfl (fun K hK => ?_)
              replace HM0 := Lib.hid BKq.out.mod
              go_simp
              refine hK.out _ _ (fun b hb => Below.heap_alloc _ _ _ (by simp at hb; rw [hb]; exact (Array.getElem?_eq_some_iff.1 BKq.out.p).1)) ?_
              clear hK K
              try simp only [Act.put, List.setIfInBounds_toArray, List.set_cons_zero, List.set_cons_succ]
              obtain ⟨wc, hw⟩ : ∃ W, W = wb.alloc (.cells #[nv 0, sv [], sv [], sv [], nv 0, .slice none 0 0, .slice none 0 0, .slice none 0 0, nv 0, nv 0, nv 0] 44) := ⟨_, rfl⟩
              have m : Mod [g] wb wc := by rw [hw]; exact (Mod.refl _ _).alloc _
              have ZRq : Hid (wc.heap[wb.heap.size]? = some (.cells #[nv 0, sv [], sv [], sv [], nv 0, .slice none 0 0, .slice none 0 0, .slice none 0 0, nv 0, nv 0, nv 0] 44 (0, 0))) := Lib.hid (by rw [hw]; exact alloc_at rfl)
              replace PWq := Lib.hid (PWq.out.next (w' := wc) (by rw [hw]; exact (Below.refl _ _).alloc (Nat.le_refl _) _))
              replace BKq := Lib.hid (BKq.out.next m hgl hg0 hg1')
              try replace YTq := Lib.hid (YTq.out.next m hgl)
              have hgz : g < wb.heap.size := by have := HM0.out.size; omega
              rw [← hw]
              clear hw m
              refine pcall rfl rfl (fun K hK => ?_)
              refine wapp4 (.tmp 17) (.tmp 21) smE rfl w.heap.size xs rfl BKq.out.own rfl [nv 0, sv [], sv [], sv [], nv 0, .slice none 0 0, .slice none 0 0, .slice none 0 0, nv 0, nv 0, nv 0] ((Row.of_block (S := fun b => b = wb.heap.size) (n := 1) (c := 1) (xs := [nv 0, sv [], sv [], sv [], nv 0, .slice none 0 0, .slice none 0 0, .slice none 0 0, nv 0, nv 0, nv 0]) ZRq.out rfl rfl (by omega) (by omega)).rd (B := wb.heap.size + 1) (fun b hb => by omega)) (by simp [Value.oneCell']) (by unfold maxLen; omega) (by omega) (by have := BKq.out.mod.size; omega) rfl ?_
              intro A7 c7 w7 o7 g7 h7
              obtain ⟨g9, rfl, hg9a, hg9b⟩ := own_form o7 (by omega)
              have hbq := BKq.out.mod.size
              have hk7 : ∀ b, b < w.heap.size → w7.heap[b]? = wc.heap[b]? := fun b hb => g7.block b (by omega) (fun e => by have := (BKq.out.own.lt b e.symm).1; omega)
              refine hK.out _ _ (fun b hb => by simp at hb; rw [hb]; exact hk7 b0 hb0) ?_
              clear hK K
              try simp only [Act.put, List.setIfInBounds_toArray, List.set_cons_zero, List.set_cons_succ]
              have X7 := Lib.hid ((hk7 b1 hb1).trans BKq.out.x)
              have PW7 := Lib.hid (PWq.out.keep (w' := w7) (fun b hb => hk7 b (by omega)))
              have HO7 := Lib.hid o7
              have HG7 := Lib.hid g7
              have HH7 := Lib.hid h7
              have HXL := Lib.hid BKq.out.own.1
              clear o7 g7 h7 hk7
              refine sreadxP rfl rfl ?_
              apply Exists.intro
              apply And.intro
              · intro W hW
                go_simp
                rw [if_pos (by omega)]
              simp only [Act.put, List.setIfInBounds_toArray, List.set_cons_zero, List.set_cons_succ]
              refine ptwo rfl rfl rfl rfl ?_ ?_
              · intro K hK
                obtain ⟨⟨⟨⟨y0, y1⟩, y2, y3⟩, ⟨y4, y5⟩, y6, y7⟩, ⟨y8, y9⟩, y10⟩ := own_cells11 HO7.out HXL.out
                obtain ⟨⟨⟨⟨fr0, fr1⟩, fr2, fr3⟩, ⟨fr4, fr5⟩, fr6, fr7⟩, ⟨fr8, fr9⟩, fr10⟩ := own_frozen11 HO7.out (k * 11)
                go_simp
                obtain ⟨w8, hw⟩ : ∃ W, W = put11 w7 g9 (k * 11) (nv (stK s)) (sv (stN s)) (sv (stT s)) (sv (stC s)) (nv (stI s)) (.slice A5 n5 c5) (.slice B5 m5 d5) (.slice E5 k5 f5) (nv p5) (nv q5) (nv z5) := ⟨_, rfl⟩
                have m8 : Mod [g9] w7 w8 := by rw [hw]; exact put11_mod
                have hz8 : w8.heap.size = w7.heap.size := by rw [hw]; exact put11_size
                have o8 : w8.ownsRow w.heap.size 44 11 (.slice (some ⟨g9, 0, none⟩) (k + 1) c7) (k + 1) (xs ++ stV s (.slice A5 n5 c5) (.slice B5 m5 d5) (.slice E5 k5 f5) p5 q5 z5) := by rw [hw]; exact own_put11 HO7.out HXL.out _ _ _ _ _ _ _ _ _ _ _
                unfold put11 nv sv at hw
                rw [← hw]
                refine hK.out _ _ (fun b hb => m8.block b (by simp at hb; omega) (by simp at hb ⊢; omega)) ?_
                clear hK K
                try simp only [Act.put, List.setIfInBounds_toArray, List.set_cons_zero, List.set_cons_succ]
                clear hw y0 y1 y2 y3 y4 y5 y6 y7 y8 y9 y10 fr0 fr1 fr2 fr3 fr4 fr5 fr6 fr7 fr8 fr9 fr10
                have X8 := m8.box X7.out (by simp; omega)
                have x17 : w8.cell? ⟨b1, 0, none⟩ = some (.slice A k c) := by rw [Lib.cell_of_heap X8]; rfl
                have xf17 : w8.frozen? ⟨b1, 0, none⟩ = false := Lib.frozen_of_heap X8 0
                refine pcall rfl rfl (fun K hK => ?_)
                go_simp
                refine hK.out _ _ (fun b hb => Below.heap_setCell _ _ _ _ (by simp at hb ⊢; omega)) ?_
                clear hK K
                try simp only [Act.put, List.setIfInBounds_toArray, List.set_cons_zero, List.set_cons_succ]
                refine pdone ?_
                have m9 : Mod [b1] w8 (w8.setCell ⟨b1, 0, none⟩ (.slice (some ⟨g9, 0, none⟩) (k + 1) c7)) := (Mod.refl _ _).set (.inl (by simp)) _
                have hF := own_mod o8 m9 (fun j hj => by simp [Value.ownBlock] at hj; simp; omega)
                obtain ⟨S', hB⟩ := BKq.out.app YTq.out HO7.out HG7.out HH7.out hb0 hb1 hb01 ((m8.more (cs := [g9, b1]) (fun x hx => .inl (by simp at hx; simp [hx]))).then (m9.more (fun x hx => .inl (by simp at hx; simp [hx])))) (by simpa using hz8) (heap_set' X8 _ 0 rfl) hF
                have HBF := Lib.hid hB
                have PF := Lib.hid ((PW7.out.mod m8 (fun x hx => by simp at hx; omega)).mod m9 (fun x hx => by simp at hx; omega))
                generalize w8.setCell ⟨b1, 0, none⟩ (.slice (some ⟨g9, 0, none⟩) (k + 1) c7) = wF at *
                clear x17 xf17 X8 m8 m9 hF hB o8 hz8
                have hll := PF.out.lenW
                have hlf2 := HLF.out
                have hln := HLN.out
                go_wp2_with fail
                go_roundw
                case rel => exact ⟨f2, a.snoc s, r, k + 1, some ⟨g9, 0, none⟩, c7, _, S', by omega, by omega, HR3, HBF, PF⟩
                case measure => rw [hll, hln]; omega
              · intro K hK
                have x17 : w7.cell? ⟨b1, 0, none⟩ = some (.slice A k c) := by rw [Lib.cell_of_heap X7.out]; rfl
                have xf17 : w7.frozen? ⟨b1, 0, none⟩ = false := Lib.frozen_of_heap X7.out 0
                go_simp
                refine hK.out _ _ (fun b hb => Below.heap_setCell _ _ _ _ (by simp at hb ⊢; omega)) ?_
                clear hK K
                try simp only [Act.put, List.setIfInBounds_toArray, List.set_cons_zero, List.set_cons_succ]
                have m8 : Mod [b1] w7 (w7.setCell ⟨b1, 0, none⟩ (.slice (some ⟨g9, 0, none⟩) (k + 1) c7)) := (Mod.refl _ _).set (.inl (by simp)) _
                have X8 := heap_set' X7.out (.slice (some ⟨g9, 0, none⟩) (k + 1) c7) 0 (cs' := #[.slice (some ⟨g9, 0, none⟩) (k + 1) c7]) rfl
                have hz8 : (w7.setCell ⟨b1, 0, none⟩ (.slice (some ⟨g9, 0, none⟩) (k + 1) c7)).heap.size = w7.heap.size := by simp
                obtain ⟨w8, hw⟩ : ∃ W, w7.setCell ⟨b1, 0, none⟩ (.slice (some ⟨g9, 0, none⟩) (k + 1) c7) = W := ⟨_, rfl⟩
                rw [hw] at m8 X8 hz8 ⊢
                clear hw x17 xf17
                have o8 := own_mod HO7.out m8 (fun j hj => by simp [Value.ownBlock] at hj; simp; omega)
                obtain ⟨⟨⟨⟨y0, y1⟩, y2, y3⟩, ⟨y4, y5⟩, y6, y7⟩, ⟨y8, y9⟩, y10⟩ := own_cells11 o8 HXL.out
                obtain ⟨⟨⟨⟨fr0, fr1⟩, fr2, fr3⟩, ⟨fr4, fr5⟩, fr6, fr7⟩, ⟨fr8, fr9⟩, fr10⟩ := own_frozen11 o8 (k * 11)
                refine pcall rfl rfl (fun K hK => ?_)
                go_simp
                obtain ⟨wF, hw⟩ : ∃ W, W = put11 w8 g9 (k * 11) (nv (stK s)) (sv (stN s)) (sv (stT s)) (sv (stC s)) (nv (stI s)) (.slice A5 n5 c5) (.slice B5 m5 d5) (.slice E5 k5 f5) (nv p5) (nv q5) (nv z5) := ⟨_, rfl⟩
                have m9 : Mod [g9] w8 wF := by rw [hw]; exact put11_mod
                have hz9 : wF.heap.size = w8.heap.size := by rw [hw]; exact put11_size
                have hF : wF.ownsRow w.heap.size 44 11 (.slice (some ⟨g9, 0, none⟩) (k + 1) c7) (k + 1) (xs ++ stV s (.slice A5 n5 c5) (.slice B5 m5 d5) (.slice E5 k5 f5) p5 q5 z5) := by rw [hw]; exact own_put11 o8 HXL.out _ _ _ _ _ _ _ _ _ _ _
                unfold put11 nv sv at hw
                rw [← hw]
                refine hK.out _ _ (fun b hb => m9.block b (by simp at hb; omega) (by simp at hb ⊢; omega)) ?_
                clear hK K
                try simp only [Act.put, List.setIfInBounds_toArray, List.set_cons_zero, List.set_cons_succ]
                clear hw y0 y1 y2 y3 y4 y5 y6 y7 y8 y9 y10 fr0 fr1 fr2 fr3 fr4 fr5 fr6 fr7 fr8 fr9 fr10
                refine pdone ?_
                obtain ⟨S', hB⟩ := BKq.out.app YTq.out HO7.out HG7.out HH7.out hb0 hb1 hb01 ((m8.more (cs := [g9, b1]) (fun x hx => .inl (by simp at hx; simp [hx]))).then (m9.more (fun x hx => .inl (by simp at hx; simp [hx])))) (by omega) (m9.box X8 (by simp; omega)) hF
                have HBF := Lib.hid hB
                have PF := Lib.hid ((PW7.out.mod m8 (fun x hx => by simp at hx; omega)).mod m9 (fun x hx => by simp at hx; omega))
                clear X8 m8 m9 hF hB o8 hz8 hz9
                have hll := PF.out.lenW
                have hlf2 := HLF.out
                have hln := HLN.out
                go_wp2_with fail
                go_roundw
                case rel => exact ⟨f2, a.snoc s, r, k + 1, some ⟨g9, 0, none⟩, c7, _, S', by omega, by omega, HR3, HBF, PF⟩
                case measure => rw [hll, hln]; omega
            · intro K hK
              go_simp
              refine hK.out _ _ (fun b hb => Below.heap_alloc _ _ _ (by simp at hb; rw [hb]; exact (Array.getElem?_eq_some_iff.1 BKq.out.p).1)) ?_
              clear hK K
              try simp only [Act.put, List.setIfInBounds_toArray, List.set_cons_zero, List.set_cons_succ]
              obtain ⟨wc, hw⟩ : ∃ W, W = wa.alloc (.cells #[nv 0, sv [], sv [], sv [], nv 0, .slice none 0 0, .slice none 0 0, .slice none 0 0, nv 0, nv 0, nv 0] 44) := ⟨_, rfl⟩
              have m : Mod [g] wa wc := by rw [hw]; exact (Mod.refl _ _).alloc _
              have ZRq : Hid (wc.heap[wa.heap.size]? = some (.cells #[nv 0, sv [], sv [], sv [], nv 0, .slice none 0 0, .slice none 0 0, .slice none 0 0, nv 0, nv 0, nv 0] 44 (0, 0))) := Lib.hid (by rw [hw]; exact alloc_at rfl)
              replace PWq := Lib.hid (PWq.out.next (w' := wc) (by rw [hw]; exact (Below.refl _ _).alloc (Nat.le_refl _) _))
              replace BKq := Lib.hid (BKq.out.next m hgl hg0 hg1')
              try replace YTq := Lib.hid (YTq.out.next m hgl)
              have hgz : g < wa.heap.size := by have := HM0.out.size; omega
              rw [← hw]
              clear hw m
              refine pcall rfl rfl (fun K hK => ?_)
              go_simp
              refine (HSC.out g d l' wc PWq.out hd HNS.out).mono ?_; rintro e wd hN
              have m := hN.1
              have hk9 : KB [b0] wc wd := fun b hb => m.block b (by simp at hb; rw [hb]; exact (Array.getElem?_eq_some_iff.1 BKq.out.p).1) (by simp at hb ⊢; omega)
              rcases hN.parts with ⟨hp, er, ep, eq, ez, hne, rfl⟩ | ⟨s, r, v, hp, pN, rfl, vs, rfl, hT⟩
              · have HN := Lib.hid hne
                clear hne
                have hq := HR2.out
                rw [hp] at hq
                simp only [bind_bad] at hq
                subst hq
                have hmw := (BKq.out.next m hgl hg0 hg1').mod
                go_wp2_with fail
                exact ⟨rfl, hmw, er, ep, eq, ez, HN.out, rfl⟩
              have hq := HR2.out
              rw [hp] at hq
              simp only [bind_ok] at hq
              have HR3 := Lib.hid hq
              have hlf := (stmt_left f2).1 d l'
              rw [hp] at hlf
              have HLF : Hid (r.length ≤ l'.length - 1) := Lib.hid hlf
              obtain ⟨A5, B5, E5, n5, c5, m5, d5, k5, f5, p5, q5, z5, rfl⟩ := hT.form
              have YTq := Lib.hid (Yt.made BKq.out hT)
              replace BKq := Lib.hid (BKq.out.next m hgl hg0 hg1')
              try replace ZRq := Lib.hid (m.box ZRq.out (by simp; omega))
              replace PWq := Lib.hid pN
              have hv : Value.agg (stV s (.slice A5 n5 c5) (.slice B5 m5 d5) (.slice E5 k5 f5) p5 q5 z5).toArray = .agg #[nv (stK s), sv (stN s), sv (stT s), sv (stC s), nv (stI s), .slice A5 n5 c5, .slice B5 m5 d5, .slice E5 k5 f5, nv p5, nv q5, nv z5] := rfl
              rw [hv]
              clear hv hN m hp pN hq hT hlf
              go_wp2_with fail
              refine hK.out _ _ hk9 ?_
              clear hk9
              clear hK K
              try simp only [Act.put, List.setIfInBounds_toArray, List.set_cons_zero, List.set_cons_succ]
              refine pcall rfl rfl (fun K hK => ?_)
              refine wapp4 (.tmp 17) (.tmp 21) smE rfl w.heap.size xs rfl BKq.out.own rfl [nv 0, sv [], sv [], sv [], nv 0, .slice none 0 0, .slice none 0 0, .slice none 0 0, nv 0, nv 0, nv 0] ((Row.of_block (S := fun b => b = wa.heap.size) (n := 1) (c := 1) (xs := [nv 0, sv [], sv [], sv [], nv 0, .slice none 0 0, .slice none 0 0, .slice none 0 0, nv 0, nv 0, nv 0]) ZRq.out rfl rfl (by omega) (by omega)).rd (B := wa.heap.size + 1) (fun b hb => by omega)) (by simp [Value.oneCell']) (by unfold maxLen; omega) (by omega) (by have := BKq.out.mod.size; omega) rfl ?_
              intro A7 c7 w7 o7 g7 h7
              obtain ⟨g9, rfl, hg9a, hg9b⟩ := own_form o7 (by omega)
              have hbq := BKq.out.mod.size
              have hk7 : ∀ b, b < w.heap.size → w7.heap[b]? = wd.heap[b]? := fun b hb => g7.block b (by omega) (fun e => by have := (BKq.out.own.lt b e.symm).1; omega)
              refine hK.out _ _ (fun b hb => by simp at hb; rw [hb]; exact hk7 b0 hb0) ?_
              clear hK K
              try simp only [Act.put, List.setIfInBounds_toArray, List.set_cons_zero, List.set_cons_succ]
              have X7 := Lib.hid ((hk7 b1 hb1).trans BKq.out.x)
              have PW7 := Lib.hid (PWq.out.keep (w' := w7) (fun b hb => hk7 b (by omega)))
              have HO7 := Lib.hid o7
              have HG7 := Lib.hid g7
              have HH7 := Lib.hid h7
              have HXL := Lib.hid BKq.out.own.1
              clear o7 g7 h7 hk7
              refine sreadxP rfl rfl ?_
              apply Exists.intro
              apply And.intro
              · intro W hW
                go_simp
                rw [if_pos (by omega)]
              simp only [Act.put, List.setIfInBounds_toArray, List.set_cons_zero, List.set_cons_succ]
              refine ptwo rfl rfl rfl rfl ?_ ?_
              · intro K hK
                obtain ⟨⟨⟨⟨y0, y1⟩, y2, y3⟩, ⟨y4, y5⟩, y6, y7⟩, ⟨y8, y9⟩, y10⟩ := own_cells11 HO7.out HXL.out
                obtain ⟨⟨⟨⟨fr0, fr1⟩, fr2, fr3⟩, ⟨fr4, fr5⟩, fr6, fr7⟩, ⟨fr8, fr9⟩, fr10⟩ := own_frozen11 HO7.out (k * 11)
                go_simp
                obtain ⟨w8, hw⟩ : ∃ W, W = put11 w7 g9 (k * 11) (nv (stK s)) (sv (stN s)) (sv (stT s)) (sv (stC s)) (nv (stI s)) (.slice A5 n5 c5) (.slice B5 m5 d5) (.slice E5 k5 f5) (nv p5) (nv q5) (nv z5) := ⟨_, rfl⟩
                have m8 : Mod [g9] w7 w8 := by rw [hw]; exact put11_mod
                have hz8 : w8.heap.size = w7.heap.size := by rw [hw]; exact put11_size
                have o8 : w8.ownsRow w.heap.size 44 11 (.slice (some ⟨g9, 0, none⟩) (k + 1) c7) (k + 1) (xs ++ stV s (.slice A5 n5 c5) (.slice B5 m5 d5) (.slice E5 k5 f5) p5 q5 z5) := by rw [hw]; exact own_put11 HO7.out HXL.out _ _ _ _ _ _ _ _ _ _ _
                unfold put11 nv sv at hw
                rw [← hw]
                refine hK.out _ _ (fun b hb => m8.block b (by simp at hb; omega) (by simp at hb ⊢; omega)) ?_
                clear hK K
                try simp only [Act.put, List.setIfInBounds_toArray, List.set_cons_zero, List.set_cons_succ]
                clear hw y0 y1 y2 y3 y4 y5 y6 y7 y8 y9 y10 fr0 fr1 fr2 fr3 fr4 fr5 fr6 fr7 fr8 fr9 fr10
                have X8 := m8.box X7.out (by simp; omega)
                have x17 : w8.cell? ⟨b1, 0, none⟩ = some (.slice A k c) := by rw [Lib.cell_of_heap X8]; rfl
                have xf17 : w8.frozen? ⟨b1, 0, none⟩ = false := Lib.frozen_of_heap X8 0
                refine pcall rfl rfl (fun K hK => ?_)
                go_simp
                refine hK.out _ _ (fun b hb => Below.heap_setCell _ _ _ _ (by simp at hb ⊢; omega)) ?_
                clear hK K
                try simp only [Act.put, List.setIfInBounds_toArray, List.set_cons_zero, List.set_cons_succ]
                refine pdone ?_
                have m9 : Mod [b1] w8 (w8.setCell ⟨b1, 0, none⟩ (.slice (some ⟨g9, 0, none⟩) (k + 1) c7)) := (Mod.refl _ _).set (.inl (by simp)) _
                have hF := own_mod o8 m9 (fun j hj => by simp [Value.ownBlock] at hj; simp; omega)
                obtain ⟨S', hB⟩ := BKq.out.app YTq.out HO7.out HG7.out HH7.out hb0 hb1 hb01 ((m8.more (cs := [g9, b1]) (fun x hx => .inl (by simp at hx; simp [hx]))).then (m9.more (fun x hx => .inl (by simp at hx; simp [hx])))) (by simpa using hz8) (heap_set' X8 _ 0 rfl) hF
                have HBF := Lib.hid hB
                have PF := Lib.hid ((PW7.out.mod m8 (fun x hx => by simp at hx; omega)).mod m9 (fun x hx => by simp at hx; omega))
                generalize w8.setCell ⟨b1, 0, none⟩ (.slice (some ⟨g9, 0, none⟩) (k + 1) c7) = wF at *
                clear x17 xf17 X8 m8 m9 hF hB o8 hz8
                have hll := PF.out.lenW
                have hlf2 := HLF.out
                have hln := HLN.out
                go_wp2_with fail
                go_roundw
                case rel => exact ⟨f2, a.snoc s, r, k + 1, some ⟨g9, 0, none⟩, c7, _, S', by omega, by omega, HR3, HBF, PF⟩
                case measure => rw [hll, hln]; omega
              · intro K hK
                have x17 : w7.cell? ⟨b1, 0, none⟩ = some (.slice A k c) := by rw [Lib.cell_of_heap X7.out]; rfl
                have xf17 : w7.frozen? ⟨b1, 0, none⟩ = false := Lib.frozen_of_heap X7.out 0
                go_simp
                refine hK.out _ _ (fun b hb => Below.heap_setCell _ _ _ _ (by simp at hb ⊢; omega)) ?_
                clear hK K
                try simp only [Act.put, List.setIfInBounds_toArray, List.set_cons_zero, List.set_cons_succ]
                have m8 : Mod [b1] w7 (w7.setCell ⟨b1, 0, none⟩ (.slice (some ⟨g9, 0, none⟩) (k + 1) c7)) := (Mod.refl _ _).set (.inl (by simp)) _
                have X8 := heap_set' X7.out (.slice (some ⟨g9, 0, none⟩) (k + 1) c7) 0 (cs' := #[.slice (some ⟨g9, 0, none⟩) (k + 1) c7]) rfl
                have hz8 : (w7.setCell ⟨b1, 0, none⟩ (.slice (some ⟨g9, 0, none⟩) (k + 1) c7)).heap.size = w7.heap.size := by simp
                obtain ⟨w8, hw⟩ : ∃ W, w7.setCell ⟨b1, 0, none⟩ (.slice (some ⟨g9, 0, none⟩) (k + 1) c7) = W := ⟨_, rfl⟩
                rw [hw] at m8 X8 hz8 ⊢
                clear hw x17 xf17
                have o8 := own_mod HO7.out m8 (fun j hj => by simp [Value.ownBlock] at hj; simp; omega)
                obtain ⟨⟨⟨⟨y0, y1⟩, y2, y3⟩, ⟨y4, y5⟩, y6, y7⟩, ⟨y8, y9⟩, y10⟩ := own_cells11 o8 HXL.out
                obtain ⟨⟨⟨⟨fr0, fr1⟩, fr2, fr3⟩, ⟨fr4, fr5⟩, fr6, fr7⟩, ⟨fr8, fr9⟩, fr10⟩ := own_frozen11 o8 (k * 11)
                refine pcall rfl rfl (fun K hK => ?_)
                go_simp
                obtain ⟨wF, hw⟩ : ∃ W, W = put11 w8 g9 (k * 11) (nv (stK s)) (sv (stN s)) (sv (stT s)) (sv (stC s)) (nv (stI s)) (.slice A5 n5 c5) (.slice B5 m5 d5) (.slice E5 k5 f5) (nv p5) (nv q5) (nv z5) := ⟨_, rfl⟩
                have m9 : Mod [g9] w8 wF := by rw [hw]; exact put11_mod
                have hz9 : wF.heap.size = w8.heap.size := by rw [hw]; exact put11_size
                have hF : wF.ownsRow w.heap.size 44 11 (.slice (some ⟨g9, 0, none⟩) (k + 1) c7) (k + 1) (xs ++ stV s (.slice A5 n5 c5) (.slice B5 m5 d5) (.slice E5 k5 f5) p5 q5 z5) := by rw [hw]; exact own_put11 o8 HXL.out _ _ _ _ _ _ _ _ _ _ _
                unfold put11 nv sv at hw
                rw [← hw]
                refine hK.out _ _ (fun b hb => m9.block b (by simp at hb; omega) (by simp at hb ⊢; omega)) ?_
                clear hK K
                try simp only [Act.put, List.setIfInBounds_toArray, List.set_cons_zero, List.set_cons_succ]
                clear hw y0 y1 y2 y3 y4 y5 y6 y7 y8 y9 y10 fr0 fr1 fr2 fr3 fr4 fr5 fr6 fr7 fr8 fr9 fr10
                refine pdone ?_
                obtain ⟨S', hB⟩ := BKq.out.app YTq.out HO7.out HG7.out HH7.out hb0 hb1 hb01 ((m8.more (cs := [g9, b1]) (fun x hx => .inl (by simp at hx; simp [hx]))).then (m9.more (fun x hx => .inl (by simp at hx; simp [hx])))) (by omega) (m9.box X8 (by simp; omega)) hF
                have HBF := Lib.hid hB
                have PF := Lib.hid ((PW7.out.mod m8 (fun x hx => by simp at hx; omega)).mod m9 (fun x hx => by simp at hx; omega))
                clear X8 m8 m9 hF hB o8 hz8 hz9
                have hll := PF.out.lenW
                have hlf2 := HLF.out
                have hln := HLN.out
                go_wp2_with fail
                go_roundw
                case rel => exact ⟨f2, a.snoc s, r, k + 1, some ⟨g9, 0, none⟩, c7, _, S', by omega, by omega, HR3, HBF, PF⟩
                case measure => rw [hll, hln]; omega
          · intro K hK
            go_simp
            refine (HSC.out g d l' wa PWq.out hd HNS.out).mono ?_; rintro e wb hN
            have m := hN.1
            have hk9 : KB [b0] wa wb := fun b hb => m.block b (by simp at hb; rw [hb]; exact (Array.getElem?_eq_some_iff.1 BKq.out.p).1) (by simp at hb ⊢; omega)
            rcases hN.parts with ⟨hp, er, ep, eq, ez, hne, rfl⟩ | ⟨s, r, v, hp, pN, rfl, vs, rfl, hT⟩
            · have HN := Lib.hid hne
              clear hne
              have hq := HR2.out
              rw [hp] at hq
              simp only [bind_bad] at hq
              subst hq
              have hmw := (BKq.out.next m hgl hg0 hg1').mod
              go_wp2_with fail
              exact ⟨rfl, hmw, er, ep, eq, ez, HN.out, rfl⟩
            have hq := HR2.out
            rw [hp] at hq
            simp only [bind_ok] at hq
            have HR3 := Lib.hid hq
            have hlf := (stmt_left f2).1 d l'
            rw [hp] at hlf
            have HLF : Hid (r.length ≤ l'.length - 1) := Lib.hid hlf
            obtain ⟨A5, B5, E5, n5, c5, m5, d5, k5, f5, p5, q5, z5, rfl⟩ := hT.form
            have YTq := Lib.hid (Yt.made BKq.out hT)
            replace BKq := Lib.hid (BKq.out.next m hgl hg0 hg1')
            try replace ZRq := Lib.hid (m.box ZRq.out (by simp; omega))
            replace PWq := Lib.hid pN
            have hv : Value.agg (stV s (.slice A5 n5 c5) (.slice B5 m5 d5) (.slice E5 k5 f5) p5 q5 z5).toArray = .agg #[nv (stK s), sv (stN s), sv (stT s), sv (stC s), nv (stI s), .slice A5 n5 c5, .slice B5 m5 d5, .slice E5 k5 f5, nv p5, nv q5, nv z5] := rfl
            rw [hv]
            clear hv hN m hp pN hq hT hlf
            go_wp2_with fail
            refine hK.out _ _ hk9 ?_
            clear hk9
            clear hK K
            try simp only [Act.put, List.setIfInBounds_toArray, List.set_cons_zero, List.set_cons_succ]
            refine ptwo rfl rfl rfl rfl ?_ ?_
            · intro K hK
              have y17 : wb.cell? ⟨b1, 0, none⟩ = some (.slice A k c) := by rw [Lib.cell_of_heap BKq.out.x]; rfl
              go_simp
              refine hK.out _ _ (KB.refl _ _) ?_
              clear y17
              clear hK K
              try simp only [Act.put, List.setIfInBounds_toArray, List.set_cons_zero, List.set_cons_succ]
              repeat (first | (refine sreadxP rfl rfl ?_; apply Exists.intro; apply And.intro; (· (intro W hW; go_simp; try (first | with_reducible rfl | (rw [if_neg (by omega)]; try with_reducible rfl)))); simp only [Act.put, List.setIfInBounds_toArray, List.set_cons_zero, List.set_cons_succ]) | (refine pskip rfl rfl ?_; simp only [Act.put, List.setIfInBounds_toArray, List.set_cons_zero, List.set_cons_succ]))
              refine pcall rfl rfl (fun K hK => ?_)
              replace HM0 := Lib.hid BKq.out.mod
              go_simp
              refine hK.out _ _ (fun b hb => Below.heap_alloc _ _ _ (by simp at hb; rw [hb]; exact (Array.getElem?_eq_some_iff.1 BKq.out.p).1)) ?_
              clear hK K
              try simp only [Act.put, List.setIfInBounds_toArray, List.set_cons_zero, List.set_cons_succ]
              obtain ⟨wc, hw⟩ : ∃ W, W = wb.alloc (.cells #[nv 0, sv [], sv [], sv [], nv 0, .slice none 0 0, .slice none 0 0, .slice none 0 0, nv 0, nv 0, nv 0] 44) := ⟨_, rfl⟩
              have m : Mod [g] wb wc := by rw [hw]; exact (Mod.refl _ _).alloc _
              have ZRq : Hid (wc.heap[wb.heap.size]? = some (.cells #[nv 0, sv [], sv [], sv [], nv 0, .slice none 0 0, .slice none 0 0, .slice none 0 0, nv 0, nv 0, nv 0] 44 (0, 0))) := Lib.hid (by rw [hw]; exact alloc_at rfl)
              replace PWq := Lib.hid (PWq.out.next (w' := wc) (by rw [hw]; exact (Below.refl _ _).alloc (Nat.le_refl _) _))
              replace BKq := Lib.hid (BKq.out.next m hgl hg0 hg1')
              try replace YTq := Lib.hid (YTq.out.next m hgl)
              have hgz : g < wb.heap.size := by have := HM0.out.size; omega
              rw [← hw]
              clear hw m
              refine pcall rfl rfl (fun K hK => ?_)
              refine wapp4 (.tmp 17) (.tmp 21) smE rfl w.heap.size xs rfl BKq.out.own rfl [nv 0, sv [], sv [], sv [], nv 0, .slice none 0 0, .slice none 0 0, .slice none 0 0, nv 0, nv 0, nv 0] ((Row.of_block (S := fun b => b = wb.heap.size) (n := 1) (c := 1) (xs := [nv 0, sv [], sv [], sv [], nv 0, .slice none 0 0, .slice none 0 0, .slice none 0 0, nv 0, nv 0, nv 0]) ZRq.out rfl rfl (by omega) (by omega)).rd (B := wb.heap.size + 1) (fun b hb => by omega)) (by simp [Value.oneCell']) (by unfold maxLen; omega) (by omega) (by have := BKq.out.mod.size; omega) rfl ?_
              intro A7 c7 w7 o7 g7 h7
              obtain ⟨g9, rfl, hg9a, hg9b⟩ := own_form o7 (by omega)
              have hbq := BKq.out.mod.size
              have hk7 : ∀ b, b < w.heap.size → w7.heap[b]? = wc.heap[b]? := fun b hb => g7.block b (by omega) (fun e => by have := (BKq.out.own.lt b e.symm).1; omega)
              refine hK.out _ _ (fun b hb => by simp at hb; rw [hb]; exact hk7 b0 hb0) ?_
              clear hK K
              try simp only [Act.put, List.setIfInBounds_toArray, List.set_cons_zero, List.set_cons_succ]
              have X7 := Lib.hid ((hk7 b1 hb1).trans BKq.out.x)
              have PW7 := Lib.hid (PWq.out.keep (w' := w7) (fun b hb => hk7 b (by omega)))
              have HO7 := Lib.hid o7
              have HG7 := Lib.hid g7
              have HH7 := Lib.hid h7
              have HXL := Lib.hid BKq.out.own.1
              clear o7 g7 h7 hk7
              refine sreadxP rfl rfl ?_
              apply Exists.intro
              apply And.intro
              · intro W hW
                go_simp
                rw [if_pos (by omega)]
              simp only [Act.put, List.setIfInBounds_toArray, List.set_cons_zero, List.set_cons_succ]
              refine ptwo rfl rfl rfl rfl ?_ ?_
              · intro K hK
                obtain ⟨⟨⟨⟨y0, y1⟩, y2, y3⟩, ⟨y4, y5⟩, y6, y7⟩, ⟨y8, y9⟩, y10⟩ := own_cells11 HO7.out HXL.out
                obtain ⟨⟨⟨⟨fr0, fr1⟩, fr2, fr3⟩, ⟨fr4, fr5⟩, fr6, fr7⟩, ⟨fr8, fr9⟩, fr10⟩ := own_frozen11 HO7.out (k * 11)
                go_simp
                obtain ⟨w8, hw⟩ : ∃ W, W = put11 w7 g9 (k * 11) (nv (stK s)) (sv (stN s)) (sv (stT s)) (sv (stC s)) (nv (stI s)) (.slice A5 n5 c5) (.slice B5 m5 d5) (.slice E5 k5 f5) (nv p5) (nv q5) (nv z5) := ⟨_, rfl⟩
                have m8 : Mod [g9] w7 w8 := by rw [hw]; exact put11_mod
                have hz8 : w8.heap.size = w7.heap.size := by rw [hw]; exact put11_size
                have o8 : w8.ownsRow w.heap.size 44 11 (.slice (some ⟨g9, 0, none⟩) (k + 1) c7) (k + 1) (xs ++ stV s (.slice A5 n5 c5) (.slice B5 m5 d5) (.slice E5 k5 f5) p5 q5 z5) := by rw [hw]; exact own_put11 HO7.out HXL.out _ _ _ _ _ _ _ _ _ _ _
                unfold put11 nv sv at hw
                rw [← hw]
                refine hK.out _ _ (fun b hb => m8.block b (by simp at hb; omega) (by simp at hb ⊢; omega)) ?_
                clear hK K
                try simp only [Act.put, List.setIfInBounds_toArray, List.set_cons_zero, List.set_cons_succ]
                clear hw y0 y1 y2 y3 y4 y5 y6 y7 y8 y9 y10 fr0 fr1 fr2 fr3 fr4 fr5 fr6 fr7 fr8 fr9 fr10
                have X8 := m8.box X7.out (by simp; omega)
                have x17 : w8.cell? ⟨b1, 0, none⟩ = some (.slice A k c) := by rw [Lib.cell_of_heap X8]; rfl
                have xf17 : w8.frozen? ⟨b1, 0, none⟩ = false := Lib.frozen_of_heap X8 0
                refine pcall rfl rfl (fun K hK => ?_)
                go_simp
                refine hK.out _ _ (fun b hb => Below.heap_setCell _ _ _ _ (by simp at hb ⊢; omega)) ?_
                clear hK K
                try simp only [Act.put, List.setIfInBounds_toArray, List.set_cons_zero, List.set_cons_succ]
                refine pdone ?_
                have m9 : Mod [b1] w8 (w8.setCell ⟨b1, 0, none⟩ (.slice (some ⟨g9, 0, none⟩) (k + 1) c7)) := (Mod.refl _ _).set (.inl (by simp)) _
                have hF := own_mod o8 m9 (fun j hj => by simp [Value.ownBlock] at hj; simp; omega)
                obtain ⟨S', hB⟩ := BKq.out.app YTq.out HO7.out HG7.out HH7.out hb0 hb1 hb01 ((m8.more (cs := [g9, b1]) (fun x hx => .inl (by simp at hx; simp [hx]))).then (m9.more (fun x hx => .inl (by simp at hx; simp [hx])))) (by simpa using hz8) (heap_set' X8 _ 0 rfl) hF
                have HBF := Lib.hid hB
                have PF := Lib.hid ((PW7.out.mod m8 (fun x hx => by simp at hx; omega)).mod m9 (fun x hx => by simp at hx; omega))
                generalize w8.setCell ⟨b1, 0, none⟩ (.slice (some ⟨g9, 0, none⟩) (k + 1) c7) = wF at *
                clear x17 xf17 X8 m8 m9 hF hB o8 hz8
                have hll := PF.out.lenW
                have hlf2 := HLF.out
                have hln := HLN.out
                go_wp2_with fail
                go_roundw
                case rel => exact ⟨f2, a.snoc s, r, k + 1, some ⟨g9, 0, none⟩, c7, _, S', by omega, by omega, HR3, HBF, PF⟩
                case measure => rw [hll, hln]; omega
              · intro K hK
                have x17 : w7.cell? ⟨b1, 0, none⟩ = some (.slice A k c) := by rw [Lib.cell_of_heap X7.out]; rfl
                have xf17 : w7.frozen? ⟨b1, 0, none⟩ = false := Lib.frozen_of_heap X7.out 0
                go_simp
                refine hK.out _ _ (fun b hb => Below.heap_setCell _ _ _ _ (by simp at hb ⊢; omega)) ?_
                clear hK K
                try simp only [Act.put, List.setIfInBounds_toArray, List.set_cons_zero, List.set_cons_succ]
                have m8 : Mod [b1] w7 (w7.setCell ⟨b1, 0, none⟩ (.slice (some ⟨g9, 0, none⟩) (k + 1) c7)) := (Mod.refl _ _).set (.inl (by simp)) _
                have X8 := heap_set' X7.out (.slice (some ⟨g9, 0, none⟩) (k + 1) c7) 0 (cs' := #[.slice (some ⟨g9, 0, none⟩) (k + 1) c7]) rfl
                have hz8 : (w7.setCell ⟨b1, 0, none⟩ (.slice (some ⟨g9, 0, none⟩) (k + 1) c7)).heap.size = w7.heap.size := by simp
                obtain ⟨w8, hw⟩ : ∃ W, w7.setCell ⟨b1, 0, none⟩ (.slice (some ⟨g9, 0, none⟩) (k + 1) c7) = W := ⟨_, rfl⟩
                rw [hw] at m8 X8 hz8 ⊢
                clear hw x17 xf17
                have o8 := own_mod HO7.out m8 (fun j hj => by simp [Value.ownBlock] at hj; simp; omega)
                obtain ⟨⟨⟨⟨y0, y1⟩, y2, y3⟩, ⟨y4, y5⟩, y6, y7⟩, ⟨y8, y9⟩, y10⟩ := own_cells11 o8 HXL.out
                obtain ⟨⟨⟨⟨fr0, fr1⟩, fr2, fr3⟩, ⟨fr4, fr5⟩, fr6, fr7⟩, ⟨fr8, fr9⟩, fr10⟩ := own_frozen11 o8 (k * 11)
                refine pcall rfl rfl (fun K hK => ?_)
                go_simp
                obtain ⟨wF, hw⟩ : ∃ W, W = put11 w8 g9 (k * 11) (nv (stK s)) (sv (stN s)) (sv (stT s)) (sv (stC s)) (nv (stI s)) (.slice A5 n5 c5) (.slice B5 m5 d5) (.slice E5 k5 f5) (nv p5) (nv q5) (nv z5) := ⟨_, rfl⟩
                have m9 : Mod [g9] w8 wF := by rw [hw]; exact put11_mod
                have hz9 : wF.heap.size = w8.heap.size := by rw [hw]; exact put11_size
                have hF : wF.ownsRow w.heap.size 44 11 (.slice (some ⟨g9, 0, none⟩) (k + 1) c7) (k + 1) (xs ++ stV s (.slice A5 n5 c5) (.slice B5 m5 d5) (.slice E5 k5 f5) p5 q5 z5) := by rw [hw]; exact own_put11 o8 HXL.out _ _ _ _ _ _ _ _ _ _ _
                unfold put11 nv sv at hw
                rw [← hw]
                refine hK.out _ _ (fun b hb => m9.block b (by simp at hb; omega) (by simp at hb ⊢; omega)) ?_
                clear hK K
                try simp only [Act.put, List.setIfInBounds_toArray, List.set_cons_zero, List.set_cons_succ]
                clear hw y0 y1 y2 y3 y4 y5 y6 y7 y8 y9 y10 fr0 fr1 fr2 fr3 fr4 fr5 fr6 fr7 fr8 fr9 fr10
                refine pdone ?_
                obtain ⟨S', hB⟩ := BKq.out.app YTq.out HO7.out HG7.out HH7.out hb0 hb1 hb01 ((m8.more (cs := [g9, b1]) (fun x hx => .inl (by simp at hx; simp [hx]))).then (m9.more (fun x hx => .inl (by simp at hx; simp [hx])))) (by omega) (m9.box X8 (by simp; omega)) hF
                have HBF := Lib.hid hB
                have PF := Lib.hid ((PW7.out.mod m8 (fun x hx => by simp at hx; omega)).mod m9 (fun x hx => by simp at hx; omega))
                clear X8 m8 m9 hF hB o8 hz8 hz9
                have hll := PF.out.lenW
                have hlf2 := HLF.out
                have hln := HLN.out
                go_wp2_with fail
                go_roundw
                case rel => exact ⟨f2, a.snoc s, r, k + 1, some ⟨g9, 0, none⟩, c7, _, S', by omega, by omega, HR3, HBF, PF⟩
                case measure => rw [hll, hln]; omega
            · intro K hK
              replace HM0 := Lib.hid BKq.out.mod
              go_simp
              refine hK.out _ _ (fun b hb => Below.heap_alloc _ _ _ (by simp at hb; rw [hb]; exact (Array.getElem?_eq_some_iff.1 BKq.out.p).1)) ?_
              clear hK K
              try simp only [Act.put, List.setIfInBounds_toArray, List.set_cons_zero, List.set_cons_succ]
              obtain ⟨wc, hw⟩ : ∃ W, W = wb.alloc (.cells #[nv 0, sv [], sv [], sv [], nv 0, .slice none 0 0, .slice none 0 0, .slice none 0 0, nv 0, nv 0, nv 0] 44) := ⟨_, rfl⟩
              have m : Mod [g] wb wc := by rw [hw]; exact (Mod.refl _ _).alloc _
              have ZRq : Hid (wc.heap[wb.heap.size]? = some (.cells #[nv 0, sv [], sv [], sv [], nv 0, .slice none 0 0, .slice none 0 0, .slice none 0 0, nv 0, nv 0, nv 0] 44 (0, 0))) := Lib.hid (by rw [hw]; exact alloc_at rfl)
              replace PWq := Lib.hid (PWq.out.next (w' := wc) (by rw [hw]; exact (Below.refl _ _).alloc (Nat.le_refl _) _))
              replace BKq := Lib.hid (BKq.out.next m hgl hg0 hg1')
              try replace YTq := Lib.hid (YTq.out.next m hgl)
              have hgz : g < wb.heap.size := by have := HM0.out.size; omega
              rw [← hw]
              clear hw m
              refine pcall rfl rfl (fun K hK => ?_)
              have y17 : wc.cell? ⟨b1, 0, none⟩ = some (.slice A k c) := by rw [Lib.cell_of_heap BKq.out.x]; rfl
              go_simp
              refine hK.out _ _ (KB.refl _ _) ?_
              clear y17
              clear hK K
              try simp only [Act.put, List.setIfInBounds_toArray, List.set_cons_zero, List.set_cons_succ]
              repeat (first | (refine sreadxP rfl rfl ?_; apply Exists.intro; apply And.intro; (· (intro W hW; go_simp; try (first | with_reducible rfl | (rw [if_neg (by omega)]; try with_reducible rfl)))); simp only [Act.put, List.setIfInBounds_toArray, List.set_cons_zero, List.set_cons_succ]) | (refine pskip rfl rfl ?_; simp only [Act.put, List.setIfInBounds_toArray, List.set_cons_zero, List.set_cons_succ]))
              refine pcall rfl rfl (fun K hK => ?_)
              refine wapp4 (.tmp 17) (.tmp 21) smE rfl w.heap.size xs rfl BKq.out.own rfl [nv 0, sv [], sv [], sv [], nv 0, .slice none 0 0, .slice none 0 0, .slice none 0 0, nv 0, nv 0, nv 0] ((Row.of_block (S := fun b => b = wb.heap.size) (n := 1) (c := 1) (xs := [nv 0, sv [], sv [], sv [], nv 0, .slice none 0 0, .slice none 0 0, .slice none 0 0, nv 0, nv 0, nv 0]) ZRq.out rfl rfl (by omega) (by omega)).rd (B := wb.heap.size + 1) (fun b hb => by omega)) (by simp [Value.oneCell']) (by unfold maxLen; omega) (by omega) (by have := BKq.out.mod.size; omega) rfl ?_
              intro A7 c7 w7 o7 g7 h7
              obtain ⟨g9, rfl, hg9a, hg9b⟩ := own_form o7 (by omega)
              have hbq := BKq.out.mod.size
              have hk7 : ∀ b, b < w.heap.size → w7.heap[b]? = wc.heap[b]? := fun b hb => g7.block b (by omega) (fun e => by have := (BKq.out.own.lt b e.symm).1; omega)
              refine hK.out _ _ (fun b hb => by simp at hb; rw [hb]; exact hk7 b0 hb0) ?_
              clear hK K
              try simp only [Act.put, List.setIfInBounds_toArray, List.set_cons_zero, List.set_cons_succ]
              have X7 := Lib.hid ((hk7 b1 hb1).trans BKq.out.x)
              have PW7 := Lib.hid (PWq.out.keep (w' := w7) (fun b hb => hk7 b (by omega)))
              have HO7 := Lib.hid o7
              have HG7 := Lib.hid g7
              have HH7 := Lib.hid h7
              have HXL := Lib.hid BKq.out.own.1
              clear o7 g7 h7 hk7
              refine sreadxP rfl rfl ?_
              apply Exists.intro
              apply And.intro
              · intro W hW
                go_simp
                rw [if_pos (by omega)]
              simp only [Act.put, List.setIfInBounds_toArray, List.set_cons_zero, List.set_cons_succ]
              refine ptwo rfl rfl rfl rfl ?_ ?_
              · intro K hK
                obtain ⟨⟨⟨⟨y0, y1⟩, y2, y3⟩, ⟨y4, y5⟩, y6, y7⟩, ⟨y8, y9⟩, y10⟩ := own_cells11 HO7.out HXL.out
                obtain ⟨⟨⟨⟨fr0, fr1⟩, fr2, fr3⟩, ⟨fr4, fr5⟩, fr6, fr7⟩, ⟨fr8, fr9⟩, fr10⟩ := own_frozen11 HO7.out (k * 11)
                go_simp
                obtain ⟨w8, hw⟩ : ∃ W, W = put11 w7 g9 (k * 11) (nv (stK s)) (sv (stN s)) (sv (stT s)) (sv (stC s)) (nv (stI s)) (.slice A5 n5 c5) (.slice B5 m5 d5) (.slice E5 k5 f5) (nv p5) (nv q5) (nv z5) := ⟨_, rfl⟩
                have m8 : Mod [g9] w7 w8 := by rw [hw]; exact put11_mod
                have hz8 : w8.heap.size = w7.heap.size := by rw [hw]; exact put11_size
                have o8 : w8.ownsRow w.heap.size 44 11 (.slice (some ⟨g9, 0, none⟩) (k + 1) c7) (k + 1) (xs ++ stV s (.slice A5 n5 c5) (.slice B5 m5 d5) (.slice E5 k5 f5) p5 q5 z5) := by rw [hw]; exact own_put11 HO7.out HXL.out _ _ _ _ _ _ _ _ _ _ _
                unfold put11 nv sv at hw
                rw [← hw]
                refine hK.out _ _ (fun b hb => m8.block b (by simp at hb; omega) (by simp at hb ⊢; omega)) ?_
                clear hK K
                try simp only [Act.put, List.setIfInBounds_toArray, List.set_cons_zero, List.set_cons_succ]
                clear hw y0 y1 y2 y3 y4 y5 y6 y7 y8 y9 y10 fr0 fr1 fr2 fr3 fr4 fr5 fr6 fr7 fr8 fr9 fr10
                have X8 := m8.box X7.out (by simp; omega)
                have x17 : w8.cell? ⟨b1, 0, none⟩ = some (.slice A k c) := by rw [Lib.cell_of_heap X8]; rfl
                have xf17 : w8.frozen? ⟨b1, 0, none⟩ = false := Lib.frozen_of_heap X8 0
                refine pcall rfl rfl (fun K hK => ?_)
                go_simp
                refine hK.out _ _ (fun b hb => Below.heap_setCell _ _ _ _ (by simp at hb ⊢; omega)) ?_
                clear hK K
                try simp only [Act.put, List.setIfInBounds_toArray, List.set_cons_zero, List.set_cons_succ]
                refine pdone ?_
                have m9 : Mod [b1] w8 (w8.setCell ⟨b1, 0, none⟩ (.slice (some ⟨g9, 0, none⟩) (k + 1) c7)) := (Mod.refl _ _).set (.inl (by simp)) _
                have hF := own_mod o8 m9 (fun j hj => by simp [Value.ownBlock] at hj; simp; omega)
                obtain ⟨S', hB⟩ := BKq.out.app YTq.out HO7.out HG7.out HH7.out hb0 hb1 hb01 ((m8.more (cs := [g9, b1]) (fun x hx => .inl (by simp at hx; simp [hx]))).then (m9.more (fun x hx => .inl (by simp at hx; simp [hx])))) (by simpa using hz8) (heap_set' X8 _ 0 rfl) hF
                have HBF := Lib.hid hB
                have PF := Lib.hid ((PW7.out.mod m8 (fun x hx => by simp at hx; omega)).mod m9 (fun x hx => by simp at hx; omega))
                generalize w8.setCell ⟨b1, 0, none⟩ (.slice (some ⟨g9, 0, none⟩) (k + 1) c7) = wF at *
                clear x17 xf17 X8 m8 m9 hF hB o8 hz8
                have hll := PF.out.lenW
                have hlf2 := HLF.out
                have hln := HLN.out
                go_wp2_with fail
                go_roundw
                case rel => exact ⟨f2, a.snoc s, r, k + 1, some ⟨g9, 0, none⟩, c7, _, S', by omega, by omega, HR3, HBF, PF⟩
                case measure => rw [hll, hln]; omega
              · intro K hK
                have x17 : w7.cell? ⟨b1, 0, none⟩ = some (.slice A k c) := by rw [Lib.cell_of_heap X7.out]; rfl
                have xf17 : w7.frozen? ⟨b1, 0, none⟩ = false := Lib.frozen_of_heap X7.out 0
                go_simp
                refine hK.out _ _ (fun b hb => Below.heap_setCell _ _ _ _ (by simp at hb ⊢; omega)) ?_
                clear hK K
                try simp only [Act.put, List.setIfInBounds_toArray, List.set_cons_zero, List.set_cons_succ]
                have m8 : Mod [b1] w7 (w7.setCell ⟨b1, 0, none⟩ (.slice (some ⟨g9, 0, none⟩) (k + 1) c7)) := (Mod.refl _ _).set (.inl (by simp)) _
                have X8 := heap_set' X7.out (.slice (some ⟨g9, 0, none⟩) (k + 1) c7) 0 (cs' := #[.slice (some ⟨g9, 0, none⟩) (k + 1) c7]) rfl
                have hz8 : (w7.setCell ⟨b1, 0, none⟩ (.slice (some ⟨g9, 0, none⟩) (k + 1) c7)).heap.size = w7.heap.size := by simp
                obtain ⟨w8, hw⟩ : ∃ W, w7.setCell ⟨b1, 0, none⟩ (.slice (some ⟨g9, 0, none⟩) (k + 1) c7) = W := ⟨_, rfl⟩
                rw [hw] at m8 X8 hz8 ⊢
                clear hw x17 xf17
                have o8 := own_mod HO7.out m8 (fun j hj => by simp [Value.ownBlock] at hj; simp; omega)
                obtain ⟨⟨⟨⟨y0, y1⟩, y2, y3⟩, ⟨y4, y5⟩, y6, y7⟩, ⟨y8, y9⟩, y10⟩ := own_cells11 o8 HXL.out
                obtain ⟨⟨⟨⟨fr0, fr1⟩, fr2, fr3⟩, ⟨fr4, fr5⟩, fr6, fr7⟩, ⟨fr8, fr9⟩, fr10⟩ := own_frozen11 o8 (k * 11)
                refine pcall rfl rfl (fun K hK => ?_)
                go_simp
                obtain ⟨wF, hw⟩ : ∃ W, W = put11 w8 g9 (k * 11) (nv (stK s)) (sv (stN s)) (sv (stT s)) (sv (stC s)) (nv (stI s)) (.slice A5 n5 c5) (.slice B5 m5 d5) (.slice E5 k5 f5) (nv p5) (nv q5) (nv z5) := ⟨_, rfl⟩
                have m9 : Mod [g9] w8 wF := by rw [hw]; exact put11_mod
                have hz9 : wF.heap.size = w8.heap.size := by rw [hw]; exact put11_size
                have hF : wF.ownsRow w.heap.size 44 11 (.slice (some ⟨g9, 0, none⟩) (k + 1) c7) (k + 1) (xs ++ stV s (.slice A5 n5 c5) (.slice B5 m5 d5) (.slice E5 k5 f5) p5 q5 z5) := by rw [hw]; exact own_put11 o8 HXL.out _ _ _ _ _ _ _ _ _ _ _
                unfold put11 nv sv at hw
                rw [← hw]
                refine hK.out _ _ (fun b hb => m9.block b (by simp at hb; omega) (by simp at hb ⊢; omega)) ?_
                clear hK K
                try simp only [Act.put, List.setIfInBounds_toArray, List.set_cons_zero, List.set_cons_succ]
                clear hw y0 y1 y2 y3 y4 y5 y6 y7 y8 y9 y10 fr0 fr1 fr2 fr3 fr4 fr5 fr6 fr7 fr8 fr9 fr10
                refine pdone ?_
                obtain ⟨S', hB⟩ := BKq.out.app YTq.out HO7.out HG7.out HH7.out hb0 hb1 hb01 ((m8.more (cs := [g9, b1]) (fun x hx => .inl (by simp at hx; simp [hx]))).then (m9.more (fun x hx => .inl (by simp at hx; simp [hx])))) (by omega) (m9.box X8 (by simp; omega)) hF
                have HBF := Lib.hid hB
                have PF := Lib.hid ((PW7.out.mod m8 (fun x hx => by simp at hx; omega)).mod m9 (fun x hx => by simp at hx; omega))
                clear X8 m8 m9 hF hB o8 hz8 hz9
                have hll := PF.out.lenW
                have hlf2 := HLF.out
                have hln := HLN.out
                go_wp2_with fail
                go_roundw
                case rel => exact ⟨f2, a.snoc s, r, k + 1, some ⟨g9, 0, none⟩, c7, _, S', by omega, by omega, HR3, HBF, PF⟩
                case measure => rw [hll, hln]; omega
          · intro K hK
            go_simp
            refine hK.out _ _ (fun b hb => Below.heap_alloc _ _ _ (by simp at hb; rw [hb]; exact (Array.getElem?_eq_some_iff.1 BKq.out.p).1)) ?_
            clear hK K
            try simp only [Act.put, List.setIfInBounds_toArray, List.set_cons_zero, List.set_cons_succ]
            obtain ⟨wc, hw⟩ : ∃ W, W = wa.alloc (.cells #[nv 0, sv [], sv [], sv [], nv 0, .slice none 0 0, .slice none 0 0, .slice none 0 0, nv 0, nv 0, nv 0] 44) := ⟨_, rfl⟩
            have m : Mod [g] wa wc := by rw [hw]; exact (Mod.refl _ _).alloc _
            have ZRq : Hid (wc.heap[wa.heap.size]? = some (.cells #[nv 0, sv [], sv [], sv [], nv 0, .slice none 0 0, .slice none 0 0, .slice none 0 0, nv 0, nv 0, nv 0] 44 (0, 0))) := Lib.hid (by rw [hw]; exact alloc_at rfl)
            replace PWq := Lib.hid (PWq.out.next (w' := wc) (by rw [hw]; exact (Below.refl _ _).alloc (Nat.le_refl _) _))
            replace BKq := Lib.hid (BKq.out.next m hgl hg0 hg1')
            try replace YTq := Lib.hid (YTq.out.next m hgl)
            have hgz : g < wa.heap.size := by have := HM0.out.size; omega
            rw [← hw]
            clear hw m
            refine ptwo rfl rfl rfl rfl ?_ ?_
            · intro K hK
              have y17 : wc.cell? ⟨b1, 0, none⟩ = some (.slice A k c) := by rw [Lib.cell_of_heap BKq.out.x]; rfl
              go_simp
              refine hK.out _ _ (KB.refl _ _) ?_
              clear y17
              clear hK K
              try simp only [Act.put, List.setIfInBounds_toArray, List.set_cons_zero, List.set_cons_succ]
              repeat (first | (refine sreadxP rfl rfl ?_; apply Exists.intro; apply And.intro; (· (intro W hW; go_simp; try (first | with_reducible rfl | (rw [if_neg (by omega)]; try with_reducible rfl)))); simp only [Act.put, List.setIfInBounds_toArray, List.set_cons_zero, List.set_cons_succ]) | (refine pskip rfl rfl ?_; simp only [Act.put, List.setIfInBounds_toArray, List.set_cons_zero, List.set_cons_succ]))
              refine pcall rfl rfl (fun K hK => ?_)
              go_simp
              refine (HSC.out g d l' wc PWq.out hd HNS.out).mono ?_; rintro e wd hN
              have m := hN.1
              have hk9 : KB [b0] wc wd := fun b hb => m.block b (by simp at hb; rw [hb]; exact (Array.getElem?_eq_some_iff.1 BKq.out.p).1) (by simp at hb ⊢; omega)
              rcases hN.parts with ⟨hp, er, ep, eq, ez, hne, rfl⟩ | ⟨s, r, v, hp, pN, rfl, vs, rfl, hT⟩
              · have HN := Lib.hid hne
                clear hne
                have hq := HR2.out
                rw [hp] at hq
                simp only [bind_bad] at hq
                subst hq
                have hmw := (BKq.out.next m hgl hg0 hg1').mod
                go_wp2_with fail
                exact ⟨rfl, hmw, er, ep, eq, ez, HN.out, rfl⟩
              have hq := HR2.out
              rw [hp] at hq
              simp only [bind_ok] at hq
              have HR3 := Lib.hid hq
              have hlf := (stmt_left f2).1 d l'
              rw [hp] at hlf
              have HLF : Hid (r.length ≤ l'.length - 1) := Lib.hid hlf
              obtain ⟨A5, B5, E5, n5, c5, m5, d5, k5, f5, p5, q5, z5, rfl⟩ := hT.form
              have YTq := Lib.hid (Yt.made BKq.out hT)
              replace BKq := Lib.hid (BKq.out.next m hgl hg0 hg1')
              try replace ZRq := Lib.hid (m.box ZRq.out (by simp; omega))
              replace PWq := Lib.hid pN
              have hv : Value.agg (stV s (.slice A5 n5 c5) (.slice B5 m5 d5) (.slice E5 k5 f5) p5 q5 z5).toArray = .agg #[nv (stK s), sv (stN s), sv (stT s), sv (stC s), nv (stI s), .slice A5 n5 c5, .slice B5 m5 d5, .slice E5 k5 f5, nv p5, nv q5, nv z5] := rfl
              rw [hv]
              clear hv hN m hp pN hq hT hlf
              go_wp2_with fail
              refine hK.out _ _ hk9 ?_
              clear hk9
              clear hK K
              try simp only [Act.put, List.setIfInBounds_toArray, List.set_cons_zero, List.set_cons_succ]
              refine pcall rfl rfl (fun K hK => ?_)
              refine wapp4 (.tmp 17) (.tmp 21) smE rfl w.heap.size xs rfl BKq.out.own rfl [nv 0, sv [], sv [], sv [], nv 0, .slice none 0 0, .slice none 0 0, .slice none 0 0, nv 0, nv 0, nv 0] ((Row.of_block (S := fun b => b = wa.heap.size) (n := 1) (c := 1) (xs := [nv 0, sv [], sv [], sv [], nv 0, .slice none 0 0, .slice none 0 0, .slice none 0 0, nv 0, nv 0, nv 0]) ZRq.out rfl rfl (by omega) (by omega)).rd (B := wa.heap.size + 1) (fun b hb => by omega)) (by simp [Value.oneCell']) (by unfold maxLen; omega) (by omega) (by have := BKq.out.mod.size; omega) rfl ?_
              intro A7 c7 w7 o7 g7 h7
              obtain ⟨g9, rfl, hg9a, hg9b⟩ := own_form o7 (by omega)
              have hbq := BKq.out.mod.size
              have hk7 : ∀ b, b < w.heap.size → w7.heap[b]? = wd.heap[b]? := fun b hb => g7.block b (by omega) (fun e => by have := (BKq.out.own.lt b e.symm).1; omega)
              refine hK.out _ _ (fun b hb => by simp at hb; rw [hb]; exact hk7 b0 hb0) ?_
              clear hK K
              try simp only [Act.put, List.setIfInBounds_toArray, List.set_cons_zero, List.set_cons_succ]
              have X7 := Lib.hid ((hk7 b1 hb1).trans BKq.out.x)
              have PW7 := Lib.hid (PWq.out.keep (w' := w7) (fun b hb => hk7 b (by omega)))
              have HO7 := Lib.hid o7
              have HG7 := Lib.hid g7
              have HH7 := Lib.hid h7
              have HXL := Lib.hid BKq.out.own.1
              clear o7 g7 h7 hk7
              refine sreadxP rfl rfl ?_
              apply Exists.intro
              apply And.intro
              · intro W hW
                go_simp
                rw [if_pos (by omega)]
              simp only [Act.put, List.setIfInBounds_toArray, List.set_cons_zero, List.set_cons_succ]
              refine ptwo rfl rfl rfl rfl ?_ ?_
              · intro K hK
                obtain ⟨⟨⟨⟨y0, y1⟩, y2, y3⟩, ⟨y4, y5⟩, y6, y7⟩, ⟨y8, y9⟩, y10⟩ := own_cells11 HO7.out HXL.out
                obtain ⟨⟨⟨⟨fr0, fr1⟩, fr2, fr3⟩, ⟨fr4, fr5⟩, fr6, fr7⟩, ⟨fr8, fr9⟩, fr10⟩ := own_frozen11 HO7.out (k * 11)
                go_simp
                obtain ⟨w8, hw⟩ : ∃ W, W = put11 w7 g9 (k * 11) (nv (stK s)) (sv (stN s)) (sv (stT s)) (sv (stC s)) (nv (stI s)) (.slice A5 n5 c5) (.slice B5 m5 d5) (.slice E5 k5 f5) (nv p5) (nv q5) (nv z5) := ⟨_, rfl⟩
                have m8 : Mod [g9] w7 w8 := by rw [hw]; exact put11_mod
                have hz8 : w8.heap.size = w7.heap.size := by rw [hw]; exact put11_size
                have o8 : w8.ownsRow w.heap.size 44 11 (.slice (some ⟨g9, 0, none⟩) (k + 1) c7) (k + 1) (xs ++ stV s (.slice A5 n5 c5) (.slice B5 m5 d5) (.slice E5 k5 f5) p5 q5 z5) := by rw [hw]; exact own_put11 HO7.out HXL.out _ _ _ _ _ _ _ _ _ _ _
                unfold put11 nv sv at hw
                rw [← hw]
                refine hK.out _ _ (fun b hb => m8.block b (by simp at hb; omega) (by simp at hb ⊢; omega)) ?_
                clear hK K
                try simp only [Act.put, List.setIfInBounds_toArray, List.set_cons_zero, List.set_cons_succ]
                clear hw y0 y1 y2 y3 y4 y5 y6 y7 y8 y9 y10 fr0 fr1 fr2 fr3 fr4 fr5 fr6 fr7 fr8 fr9 fr10
                have X8 := m8.box X7.out (by simp; omega)
                have x17 : w8.cell? ⟨b1, 0, none⟩ = some (.slice A k c) := by rw [Lib.cell_of_heap X8]; rfl
                have xf17 : w8.frozen? ⟨b1, 0, none⟩ = false := Lib.frozen_of_heap X8 0
                refine pcall rfl rfl (fun K hK => ?_)
                go_simp
                refine hK.out _ _ (fun b hb => Below.heap_setCell _ _ _ _ (by simp at hb ⊢; omega)) ?_
                clear hK K
                try simp only [Act.put, List.setIfInBounds_toArray, List.set_cons_zero, List.set_cons_succ]
                refine pdone ?_
                have m9 : Mod [b1] w8 (w8.setCell ⟨b1, 0, none⟩ (.slice (some ⟨g9, 0, none⟩) (k + 1) c7)) := (Mod.refl _ _).set (.inl (by simp)) _
                have hF := own_mod o8 m9 (fun j hj => by simp [Value.ownBlock] at hj; simp; omega)
                obtain ⟨S', hB⟩ := BKq.out.app YTq.out HO7.out HG7.out HH7.out hb0 hb1 hb01 ((m8.more (cs := [g9, b1]) (fun x hx => .inl (by simp at hx; simp [hx]))).then (m9.more (fun x hx => .inl (by simp at hx; simp [hx])))) (by simpa using hz8) (heap_set' X8 _ 0 rfl) hF
                have HBF := Lib.hid hB
                have PF := Lib.hid ((PW7.out.mod m8 (fun x hx => by simp at hx; omega)).mod m9 (fun x hx => by simp at hx; omega))
                generalize w8.setCell ⟨b1, 0, none⟩ (.slice (some ⟨g9, 0, none⟩) (k + 1) c7) = wF at *
                clear x17 xf17 X8 m8 m9 hF hB o8 hz8
                have hll := PF.out.lenW
                have hlf2 := HLF.out
                have hln := HLN.out
                go_wp2_with fail
                go_roundw
                case rel => exact ⟨f2, a.snoc s, r, k + 1, some ⟨g9, 0, none⟩, c7, _, S', by omega, by omega, HR3, HBF, PF⟩
                case measure => rw [hll, hln]; omega
              · intro K hK
                have x17 : w7.cell? ⟨b1, 0, none⟩ = some (.slice A k c) := by rw [Lib.cell_of_heap X7.out]; rfl
                have xf17 : w7.frozen? ⟨b1, 0, none⟩ = false := Lib.frozen_of_heap X7.out 0
                go_simp
                refine hK.out _ _ (fun b hb => Below.heap_setCell _ _ _ _ (by simp at hb ⊢; omega)) ?_
                clear hK K
                try simp only [Act.put, List.setIfInBounds_toArray, List.set_cons_zero, List.set_cons_succ]
                have m8 : Mod [b1] w7 (w7.setCell ⟨b1, 0, none⟩ (.slice (some ⟨g9, 0, none⟩) (k + 1) c7)) := (Mod.refl _ _).set (.inl (by simp)) _
                have X8 := heap_set' X7.out (.slice (some ⟨g9, 0, none⟩) (k + 1) c7) 0 (cs' := #[.slice (some ⟨g9, 0, none⟩) (k + 1) c7]) rfl
                have hz8 : (w7.setCell ⟨b1, 0, none⟩ (.slice (some ⟨g9, 0, none⟩) (k + 1) c7)).heap.size = w7.heap.size := by simp
                obtain ⟨w8, hw⟩ : ∃ W, w7.setCell ⟨b1, 0, none⟩ (.slice (some ⟨g9, 0, none⟩) (k + 1) c7) = W := ⟨_, rfl⟩
                rw [hw] at m8 X8 hz8 ⊢
                clear hw x17 xf17
                have o8 := own_mod HO7.out m8 (fun j hj => by simp [Value.ownBlock] at hj; simp; omega)
                obtain ⟨⟨⟨⟨y0, y1⟩, y2, y3⟩, ⟨y4, y5⟩, y6, y7⟩, ⟨y8, y9⟩, y10⟩ := own_cells11 o8 HXL.out
                obtain ⟨⟨⟨⟨fr0, fr1⟩, fr2, fr3⟩, ⟨fr4, fr5⟩, fr6, fr7⟩, ⟨fr8, fr9⟩, fr10⟩ := own_frozen11 o8 (k * 11)
                refine pcall rfl rfl (fun K hK => ?_)
                go_simp
                obtain ⟨wF, hw⟩ : ∃ W, W = put11 w8 g9 (k * 11) (nv (stK s)) (sv (stN s)) (sv (stT s)) (sv (stC s)) (nv (stI s)) (.slice A5 n5 c5) (.slice B5 m5 d5) (.slice E5 k5 f5) (nv p5) (nv q5) (nv z5) := ⟨_, rfl⟩
                have m9 : Mod [g9] w8 wF := by rw [hw]; exact put11_mod
                have hz9 : wF.heap.size = w8.heap.size := by rw [hw]; exact put11_size
                have hF : wF.ownsRow w.heap.size 44 11 (.slice (some ⟨g9, 0, none⟩) (k + 1) c7) (k + 1) (xs ++ stV s (.slice A5 n5 c5) (.slice B5 m5 d5) (.slice E5 k5 f5) p5 q5 z5) := by rw [hw]; exact own_put11 o8 HXL.out _ _ _ _ _ _ _ _ _ _ _
                unfold put11 nv sv at hw
                rw [← hw]
                refine hK.out _ _ (fun b hb => m9.block b (by simp at hb; omega) (by simp at hb ⊢; omega)) ?_
                clear hK K
                try simp only [Act.put, List.setIfInBounds_toArray, List.set_cons_zero, List.set_cons_succ]
                clear hw y0 y1 y2 y3 y4 y5 y6 y7 y8 y9 y10 fr0 fr1 fr2 fr3 fr4 fr5 fr6 fr7 fr8 fr9 fr10
                refine pdone ?_
                obtain ⟨S', hB⟩ := BKq.out.app YTq.out HO7.out HG7.out HH7.out hb0 hb1 hb01 ((m8.more (cs := [g9, b1]) (fun x hx => .inl (by simp at hx; simp [hx]))).then (m9.more (fun x hx => .inl (by simp at hx; simp [hx])))) (by omega) (m9.box X8 (by simp; omega)) hF
                have HBF := Lib.hid hB
                have PF := Lib.hid ((PW7.out.mod m8 (fun x hx => by simp at hx; omega)).mod m9 (fun x hx => by simp at hx; omega))
                clear X8 m8 m9 hF hB o8 hz8 hz9
                have hll := PF.out.lenW
                have hlf2 := HLF.out
                have hln := HLN.out
                go_wp2_with fail
                go_roundw
                case rel => exact ⟨f2, a.snoc s, r, k + 1, some ⟨g9, 0, none⟩, c7, _, S', by omega, by omega, HR3, HBF, PF⟩
                case measure => rw [hll, hln]; omega
            · intro K hK
              go_simp
              refine (HSC.out g d l' wc PWq.out hd HNS.out).mono ?_; rintro e wd hN
              have m := hN.1
              have hk9 : KB [b0] wc wd := fun b hb => m.block b (by simp at hb; rw [hb]; exact (Array.getElem?_eq_some_iff.1 BKq.out.p).1) (by simp at hb ⊢; omega)
              rcases hN.parts with ⟨hp, er, ep, eq, ez, hne, rfl⟩ | ⟨s, r, v, hp, pN, rfl, vs, rfl, hT⟩
              · have HN := Lib.hid hne
                clear hne
                have hq := HR2.out
                rw [hp] at hq
                simp only [bind_bad] at hq
                subst hq
                have hmw := (BKq.out.next m hgl hg0 hg1').mod
                go_wp2_with fail
                exact ⟨rfl, hmw, er, ep, eq, ez, HN.out, rfl⟩
              have hq := HR2.out
              rw [hp] at hq
              simp only [bind_ok] at hq
              have HR3 := Lib.hid hq
              have hlf := (stmt_left f2).1 d l'
              rw [hp] at hlf
              have HLF : Hid (r.length ≤ l'.length - 1) := Lib.hid hlf
              obtain ⟨A5, B5, E5, n5, c5, m5, d5, k5, f5, p5, q5, z5, rfl⟩ := hT.form
              have YTq := Lib.hid (Yt.made BKq.out hT)
              replace BKq := Lib.hid (BKq.out.next m hgl hg0 hg1')
              try replace ZRq := Lib.hid (m.box ZRq.out (by simp; omega))
              replace PWq := Lib.hid pN
              have hv : Value.agg (stV s (.slice A5 n5 c5) (.slice B5 m5 d5) (.slice E5 k5 f5) p5 q5 z5).toArray = .agg #[nv (stK s), sv (stN s), sv (stT s), sv (stC s), nv (stI s), .slice A5 n5 c5, .slice B5 m5 d5, .slice E5 k5 f5, nv p5, nv q5, nv z5] := rfl
              rw [hv]
              clear hv hN m hp pN hq hT hlf
              go_wp2_with fail
              refine hK.out _ _ hk9 ?_
              clear hk9
              clear hK K
              try simp only [Act.put, List.setIfInBounds_toArray, List.set_cons_zero, List.set_cons_succ]
              refine pcall rfl rfl (fun K hK => ?_)
              have y17 : wd.cell? ⟨b1, 0, none⟩ = some (.slice A k c) := by rw [Lib.cell_of_heap BKq.out.x]; rfl
              go_simp
              refine hK.out _ _ (KB.refl _ _) ?_
              clear y17
              clear hK K
              try simp only [Act.put, List.setIfInBounds_toArray, List.set_cons_zero, List.set_cons_succ]
              repeat (first | (refine sreadxP rfl rfl ?_; apply Exists.intro; apply And.intro; (· (intro W hW; go_simp; try (first | with_reducible rfl | (rw [if_neg (by omega)]; try with_reducible rfl)))); simp only [Act.put, List.setIfInBounds_toArray, List.set_cons_zero, List.set_cons_succ]) | (refine pskip rfl rfl ?_; simp only [Act.put, List.setIfInBounds_toArray, List.set_cons_zero, List.set_cons_succ]))
              refine pcall rfl rfl (fun K hK => ?_)
              refine wapp4 (.tmp 17) (.tmp 21) smE rfl w.heap.size xs rfl BKq.out.own rfl [nv 0, sv [], sv [], sv [], nv 0, .slice none 0 0, .slice none 0 0, .slice none 0 0, nv 0, nv 0, nv 0] ((Row.of_block (S := fun b => b = wa.heap.size) (n := 1) (c := 1) (xs := [nv 0, sv [], sv [], sv [], nv 0, .slice none 0 0, .slice none 0 0, .slice none 0 0, nv 0, nv 0, nv 0]) ZRq.out rfl rfl (by omega) (by omega)).rd (B := wa.heap.size + 1) (fun b hb => by omega)) (by simp [Value.oneCell']) (by unfold maxLen; omega) (by omega) (by have := BKq.out.mod.size; omega) rfl ?_
              intro A7 c7 w7 o7 g7 h7
              obtain ⟨g9, rfl, hg9a, hg9b⟩ := own_form o7 (by omega)
              have hbq := BKq.out.mod.size
              have hk7 : ∀ b, b < w.heap.size → w7.heap[b]? = wd.heap[b]? := fun b hb => g7.block b (by omega) (fun e => by have := (BKq.out.own.lt b e.symm).1; omega)
              refine hK.out _ _ (fun b hb => by simp at hb; rw [hb]; exact hk7 b0 hb0) ?_
              clear hK K
              try simp only [Act.put, List.setIfInBounds_toArray, List.set_cons_zero, List.set_cons_succ]
              have X7 := Lib.hid ((hk7 b1 hb1).trans BKq.out.x)
              have PW7 := Lib.hid (PWq.out.keep (w' := w7) (fun b hb => hk7 b (by omega)))
              have HO7 := Lib.hid o7
              have HG7 := Lib.hid g7
              have HH7 := Lib.hid h7
              have HXL := Lib.hid BKq.out.own.1
              clear o7 g7 h7 hk7
              refine sreadxP rfl rfl ?_
              apply Exists.intro
              apply And.intro
              · intro W hW
                go_simp
                rw [if_pos (by omega)]
              simp only [Act.put, List.setIfInBounds_toArray, List.set_cons_zero, List.set_cons_succ]
              refine ptwo rfl rfl rfl rfl ?_ ?_
              · intro K hK
                obtain ⟨⟨⟨⟨y0, y1⟩, y2, y3⟩, ⟨y4, y5⟩, y6, y7⟩, ⟨y8, y9⟩, y10⟩ := own_cells11 HO7.out HXL.out
                obtain ⟨⟨⟨⟨fr0, fr1⟩, fr2, fr3⟩, ⟨fr4, fr5⟩, fr6, fr7⟩, ⟨fr8, fr9⟩, fr10⟩ := own_frozen11 HO7.out (k * 11)
                go_simp
                obtain ⟨w8, hw⟩ : ∃ W, W = put11 w7 g9 (k * 11) (nv (stK s)) (sv (stN s)) (sv (stT s)) (sv (stC s)) (nv (stI s)) (.slice A5 n5 c5) (.slice B5 m5 d5) (.slice E5 k5 f5) (nv p5) (nv q5) (nv z5) := ⟨_, rfl⟩
                have m8 : Mod [g9] w7 w8 := by rw [hw]; exact put11_mod
                have hz8 : w8.heap.size = w7.heap.size := by rw [hw]; exact put11_size
                have o8 : w8.ownsRow w.heap.size 44 11 (.slice (some ⟨g9, 0, none⟩) (k + 1) c7) (k + 1) (xs ++ stV s (.slice A5 n5 c5) (.slice B5 m5 d5) (.slice E5 k5 f5) p5 q5 z5) := by rw [hw]; exact own_put11 HO7.out HXL.out _ _ _ _ _ _ _ _ _ _ _
                unfold put11 nv sv at hw
                rw [← hw]
                refine hK.out _ _ (fun b hb => m8.block b (by simp at hb; omega) (by simp at hb ⊢; omega)) ?_
                clear hK K
                try simp only [Act.put, List.setIfInBounds_toArray, List.set_cons_zero, List.set_cons_succ]
                clear hw y0 y1 y2 y3 y4 y5 y6 y7 y8 y9 y10 fr0 fr1 fr2 fr3 fr4 fr5 fr6 fr7 fr8 fr9 fr10
                have X8 := m8.box X7.out (by simp; omega)
                have x17 : w8.cell? ⟨b1, 0, none⟩ = some (.slice A k c) := by rw [Lib.cell_of_heap X8]; rfl
                have xf17 : w8.frozen? ⟨b1, 0, none⟩ = false := Lib.frozen_of_heap X8 0
                refine pcall rfl rfl (fun K hK => ?_)
                go_simp
                refine hK.out _ _ (fun b hb => Below.heap_setCell _ _ _ _ (by simp at hb ⊢; omega)) ?_
                clear hK K
                try simp only [Act.put, List.setIfInBounds_toArray, List.set_cons_zero, List.set_cons_succ]
                refine pdone ?_
                have m9 : Mod [b1] w8 (w8.setCell ⟨b1, 0, none⟩ (.slice (some ⟨g9, 0, none⟩) (k + 1) c7)) := (Mod.refl _ _).set (.inl (by simp)) _
                have hF := own_mod o8 m9 (fun j hj => by simp [Value.ownBlock] at hj; simp; omega)
                obtain ⟨S', hB⟩ := BKq.out.app YTq.out HO7.out HG7.out HH7.out hb0 hb1 hb01 ((m8.more (cs := [g9, b1]) (fun x hx => .inl (by simp at hx; simp [hx]))).then (m9.more (fun x hx => .inl (by simp at hx; simp [hx])))) (by simpa using hz8) (heap_set' X8 _ 0 rfl) hF
                have HBF := Lib.hid hB
                have PF := Lib.hid ((PW7.out.mod m8 (fun x hx => by simp at hx; omega)).mod m9 (fun x hx => by simp at hx; omega))
                generalize w8.setCell ⟨b1, 0, none⟩ (.slice (some ⟨g9, 0, none⟩) (k + 1) c7) = wF at *
                clear x17 xf17 X8 m8 m9 hF hB o8 hz8
                have hll := PF.out.lenW
                have hlf2 := HLF.out
                have hln := HLN.out
                go_wp2_with fail
                go_roundw
                case rel => exact ⟨f2, a.snoc s, r, k + 1, some ⟨g9, 0, none⟩, c7, _, S', by omega, by omega, HR3, HBF, PF⟩
                case measure => rw [hll, hln]; omega
              · intro K hK
                have x17 : w7.cell? ⟨b1, 0, none⟩ = some (.slice A k c) := by rw [Lib.cell_of_heap X7.out]; rfl
                have xf17 : w7.frozen? ⟨b1, 0, none⟩ = false := Lib.frozen_of_heap X7.out 0
                go_simp
                refine hK.out _ _ (fun b hb => Below.heap_setCell _ _ _ _ (by simp at hb ⊢; omega)) ?_
                clear hK K
                try simp only [Act.put, List.setIfInBounds_toArray, List.set_cons_zero, List.set_cons_succ]
                have m8 : Mod [b1] w7 (w7.setCell ⟨b1, 0, none⟩ (.slice (some ⟨g9, 0, none⟩) (k + 1) c7)) := (Mod.refl _ _).set (.inl (by simp)) _
                have X8 := heap_set' X7.out (.slice (some ⟨g9, 0, none⟩) (k + 1) c7) 0 (cs' := #[.slice (some ⟨g9, 0, none⟩) (k + 1) c7]) rfl
                have hz8 : (w7.setCell ⟨b1, 0, none⟩ (.slice (some ⟨g9, 0, none⟩) (k + 1) c7)).heap.size = w7.heap.size := by simp
                obtain ⟨w8, hw⟩ : ∃ W, w7.setCell ⟨b1, 0, none⟩ (.slice (some ⟨g9, 0, none⟩) (k + 1) c7) = W := ⟨_, rfl⟩
                rw [hw] at m8 X8 hz8 ⊢
                clear hw x17 xf17
                have o8 := own_mod HO7.out m8 (fun j hj => by simp [Value.ownBlock] at hj; simp; omega)
                obtain ⟨⟨⟨⟨y0, y1⟩, y2, y3⟩, ⟨y4, y5⟩, y6, y7⟩, ⟨y8, y9⟩, y10⟩ := own_cells11 o8 HXL.out
                obtain ⟨⟨⟨⟨fr0, fr1⟩, fr2, fr3⟩, ⟨fr4, fr5⟩, fr6, fr7⟩, ⟨fr8, fr9⟩, fr10⟩ := own_frozen11 o8 (k * 11)
                refine pcall rfl rfl (fun K hK => ?_)
                go_simp
                obtain ⟨wF, hw⟩ : ∃ W, W = put11 w8 g9 (k * 11) (nv (stK s)) (sv (stN s)) (sv (stT s)) (sv (stC s)) (nv (stI s)) (.slice A5 n5 c5) (.slice B5 m5 d5) (.slice E5 k5 f5) (nv p5) (nv q5) (nv z5) := ⟨_, rfl⟩
                have m9 : Mod [g9] w8 wF := by rw [hw]; exact put11_mod
                have hz9 : wF.heap.size = w8.heap.size := by rw [hw]; exact put11_size
                have hF : wF.ownsRow w.heap.size 44 11 (.slice (some ⟨g9, 0, none⟩) (k + 1) c7) (k + 1) (xs ++ stV s (.slice A5 n5 c5) (.slice B5 m5 d5) (.slice E5 k5 f5) p5 q5 z5) := by rw [hw]; exact own_put11 o8 HXL.out _ _ _ _ _ _ _ _ _ _ _
                unfold put11 nv sv at hw
                rw [← hw]
                refine hK.out _ _ (fun b hb => m9.block b (by simp at hb; omega) (by simp at hb ⊢; omega)) ?_
                clear hK K
                try simp only [Act.put, List.setIfInBounds_toArray, List.set_cons_zero, List.set_cons_succ]
                clear hw y0 y1 y2 y3 y4 y5 y6 y7 y8 y9 y10 fr0 fr1 fr2 fr3 fr4 fr5 fr6 fr7 fr8 fr9 fr10
                refine pdone ?_
                obtain ⟨S', hB⟩ := BKq.out.app YTq.out HO7.out HG7.out HH7.out hb0 hb1 hb01 ((m8.more (cs := [g9, b1]) (fun x hx => .inl (by simp at hx; simp [hx]))).then (m9.more (fun x hx => .inl (by simp at hx; simp [hx])))) (by omega) (m9.box X8 (by simp; omega)) hF
                have HBF := Lib.hid hB
                have PF := Lib.hid ((PW7.out.mod m8 (fun x hx => by simp at hx; omega)).mod m9 (fun x hx => by simp at hx; omega))
                clear X8 m8 m9 hF hB o8 hz8 hz9
                have hll := PF.out.lenW
                have hlf2 := HLF.out
                have hln := HLN.out
                go_wp2_with fail
                go_roundw
                case rel => exact ⟨f2, a.snoc s, r, k + 1, some ⟨g9, 0, none⟩, c7, _, S', by omega, by omega, HR3, HBF, PF⟩
                case measure => rw [hll, hln]; omega
end Go.Proofs.YtnbmpfdffoidaaaGreatDoor.Y
