/- The contract of the reference's All (layer 8). -/
import Derived.Test.YtpodniljpinigaaLexRefO2
namespace Go.Proofs.Ytpodniljpinigaa.X
open Go.RowKit O V S

theorem lex_same {s : List UInt8} {i j : Nat} (h : skip (s.drop i) = skip (s.drop j)) : ∀ f, lexS s f i = lexS s f j
  | 0 => rfl
  | f + 1 => by unfold lexS; rw [h]
theorem own_setN {w : World} {base e size n b j : Nat} {v : Value} {xs : List Value} (h : w.ownsRow base e size v n xs) (u : Value) (hb : ∀ g, v.ownBlock = some g → g ≠ b) : (w.setCell ⟨b, j, none⟩ u).ownsRow base e size v n xs :=
  h.kept (gb_set w b j u) (by
    cases hv : v.ownBlock with
    | none => exact .inl rfl
    | some g => exact .inr (fun e => hb g hv (by injection e)))
theorem cell_app {W w' : World} {o : Obj} {g : Nat} {vs : Array Value} {T : TypeId} {row : Option Nat} (X : W.heap[g]? = some (.cells vs T (0, 0))) (hg : (W.alloc o).grownBy w' row) (hne : ∀ q, row = some q → q ≠ g) : w'.heap[g]? = some (.cells vs T (0, 0)) := by
  have h1 := box_next X ((Below.refl W.heap.size W).alloc (Nat.le_refl _) o)
  exact (hg.block g (Array.getElem?_eq_some_iff.1 h1).1 (fun e => hne g e.symm rfl)).trans h1
/-- What the reference's All hands back. -/
def RetRA (s : List UInt8) (b : Nat) (e : Ending) (w' : World) : Prop :=
  if (lexS s (s.length + 1) 0).2.1 ≠ 0 then e = .returned (.tuple #[.slice none 0 0, .int .i64 (lexS s (s.length + 1) 0).2.1, .int .i64 ((lexS s (s.length + 1) 0).2.2 : Nat)])
  else ∃ A n c xs, e = .returned (.tuple #[.slice A n c, .int .i64 0, .int .i64 0]) ∧ w'.ownsRow b 45 8 (.slice A n c) n xs ∧ Reps (TkC s) (lexS s (s.length + 1) 0).1 xs
set_option maxHeartbeats 4000000 in
set_option maxRecDepth 100000 in
theorem rall_any (s : List UInt8) (w : World) (hs : s.length ≤ 16384) : Calls Try.prog 21 #[.string ⟨s.toArray⟩] w fun e w' => RetRA s w.heap.size e w' ∧ Below w.heap.size w w' := by
  have hsz : (ByteArray.mk s.toArray).size = s.length := by simp [ByteArray.size]
  go_enter Try.func21, Try.ntmps21
  go_wp2_with fail
  go_loopw [2, 3, 4, 5, 6] (fun _ _ _ row iv wr => ∃ (i f n c : Nat) (pre : List Tk) (A : Option Addr) (xs : List Value), row = .slice A n c ∧ iv = .int .i64 (i : Int) ∧ i ≤ s.length ∧ Hid (lexS s (s.length + 1) 0 = (pre ++ (lexS s f i).1, (lexS s f i).2)) ∧ s.length + 1 ≤ f + i ∧ pre.length ≤ i ∧ Hid (n = pre.length) ∧ Hid (wr.ownsRow w.heap.size 45 8 (.slice A n c) n xs) ∧ Hid (Reps (TkC s) pre xs) ∧ Below w.heap.size w wr) (fun _ _ _ _ iv _ => s.length - (intOf iv).toNat)
  case atStart => exact ⟨0, s.length + 1, 0, 0, [], none, [], rfl, rfl, by omega, Lib.hid (by simp), by omega, by simp, Lib.hid rfl, Lib.hid (World.ownsRow_nil _ _ _ _), Lib.hid (by simp [Reps]), Below.refl _ _⟩
  case round =>
    obtain ⟨i, f, n, c, pre, A, xs, rfl, rfl, hi, hp, hf, hpi, HN, HO, hR, hB⟩ := hrel
    by_cases hlt : i < s.length
    · have hki : (i : Int) < (s.length : Int) := by omega
      obtain ⟨d, hd⟩ : ∃ d, s[i] = d := ⟨_, rfl⟩
      have hx := ba_at s i hlt hd
      by_cases h5 : kindN d = 5
      · have hsk : skip (s.drop i) = skip (s.drop (i + 1)) := by
          rw [List.drop_eq_getElem_cons hlt, skip_blank _ (by rw [hd]; exact (kind5 d).1 h5)]
        have HP := Lib.hid (hp.out.trans (by rw [lex_same hsk f]))
        clear hp hsk hd
        go_wp2_with fail
        refine (rkind_any d _).mono ?_; rintro e w1 ⟨rfl, rfl⟩
        rw [h5]
        clear h5
        go_wp2_with fail
        go_roundw
        case rel => exact ⟨i + 1, f, n, c, pre, A, xs, rfl, by go_num, by omega, HP, by omega, by omega, HN, HO, hR, hB⟩
        case measure => simp [intOf]; omega
      · have g5 : ((kindN d : Int) == 5) = false := by simp; omega
        by_cases h6 : kindN d = 6
        · have h35 := (kind6 d).1 h6
          have hnote := Lib.hid (skip_at_note hlt (by rw [hd]; exact h35))
          have g6 : ((kindN d : Int) == 6) = true := by simp; omega
          clear h5 h6 hd h35
          go_wp2_with fail
          refine (rkind_any d _).mono ?_; rintro e w1 ⟨rfl, rfl⟩
          go_wp2_with fail
          refine (rkind_any d _).mono ?_; rintro e w1 ⟨rfl, rfl⟩
          go_wp2_with fail
          have hdl : (s.drop i).length = s.length - i := by simp
          clear g5 g6
          go_loop [6] (fun v => ∃ m : Nat, i + m ≤ s.length ∧ v = .int .i64 ((i + m : Nat) : Int) ∧ Hid (((s.drop i).take m).all noteC = true)) (fun v => s.length - (intOf v).toNat)
          case atStart => exact ⟨0, by omega, rfl, Lib.hid (by simp)⟩
          case round =>
            obtain ⟨m, hml, rfl, H⟩ := hrel
            obtain ⟨k, hk⟩ : ∃ k, i + m = k := ⟨_, rfl⟩
            have HK := Lib.hid hk
            rw [hk]
            rw [hk] at hml
            by_cases hl2 : k < s.length
            · have hlt' : m < (s.drop i).length := by omega
              have hst := Lib.hid (all_snoc (p := noteC) hlt' H.out)
              have hno := Lib.hid (run_step (p := noteC) hlt' H.out)
              obtain ⟨q, hq⟩ : ∃ q, (s.drop i)[m] = q := ⟨_, rfl⟩
              rw [hq] at hst hno
              rw [List.getElem_drop] at hq
              have hx2 := ba_at s k hl2 (by simpa only [hk] using hq)
              have hki2 : (k : Int) < (s.length : Int) := by omega
              clear hq hk
              cases hp10 : noteC q
              · have hrl : runLen noteC (s.drop i) = m := hno.out.trans (if_neg (by simp [hp10]))
                have e10 : ((q.toNat : Int) != 10) = false := by simp [noteC] at hp10; simp; omega
                have hsk := hnote.out
                rw [hrl, HK.out] at hsk
                have hpos := hsk.2
                have HP := Lib.hid (hp.out.trans (by rw [← lex_same hsk.1 f]))
                clear hsk hrl
                try clear hp10
                go_wp2_with fail
                go_roundw
                case rel => exact ⟨k, f, n, c, pre, A, xs, rfl, rfl, by omega, HP, by have := HK.out; omega, by have := HK.out; omega, HN, HO, hR, hB⟩
                case measure => have := HK.out; simp [intOf]; omega
              · have e10 : ((q.toNat : Int) != 10) = true := by simp [noteC] at hp10; simp; omega
                have hst' := Lib.hid (hst.out hp10)
                clear hp10
                go_wp2_with fail
                go_round
                case rel => exact ⟨m + 1, by have := HK.out; omega, congrArg (Value.int .i64) (by have := HK.out; omega), hst'⟩
                case measure => simp [intOf]; omega
            · have hrl : runLen noteC (s.drop i) = m := by
                have h1 := H.out
                rw [List.take_of_length_le (by omega)] at h1
                rw [run_all h1]; omega
              have hki2 : ¬ (k : Int) < (s.length : Int) := by omega
              clear hk
              have hsk := hnote.out
              rw [hrl, HK.out] at hsk
              have hpos := hsk.2
              have HP := Lib.hid (hp.out.trans (by rw [← lex_same hsk.1 f]))
              clear hsk hrl
              try clear hp10
              go_wp2_with fail
              go_roundw
              case rel => exact ⟨k, f, n, c, pre, A, xs, rfl, rfl, by omega, HP, by have := HK.out; omega, by have := HK.out; omega, HN, HO, hR, hB⟩
              case measure => have := HK.out; simp [intOf]; omega
        · have g6 : ((kindN d : Int) == 6) = false := by simp; omega
          have hst : skip (s.drop i) = s.drop i := by
            rw [List.drop_eq_getElem_cons hlt, skip_stop]
            · rw [hd]; cases hb : blankC d
              · rfl
              · exact absurd ((kind5 d).2 hb) h5
            · rw [hd]; exact fun e => h6 ((kind6 d).2 e)
          have hj : s.length - (skip (s.drop i)).length = i := by rw [hst, List.length_drop]; omega
          clear h5 h6 hd
          obtain ⟨f, rfl⟩ : ∃ f', f = f' + 1 := ⟨f - 1, by omega⟩
          go_wp2_with fail
          refine (rkind_any d _).mono ?_; rintro e w1 ⟨rfl, rfl⟩
          go_wp2_with fail
          refine (rkind_any d _).mono ?_; rintro e w1 ⟨rfl, rfl⟩
          go_wp2_with fail
          refine (rone_any s i _ (by omega) hlt).mono ?_; rintro e w2 ⟨⟨k, x, v, rfl, hr⟩, b2⟩
          have O2 := own_below HO.out b2
          have B2 := hB.trans (b2.mono hB.size)
          have hne : ∀ g, (Value.slice A n c).ownBlock = some g → g ≠ w2.heap.size := fun g hg => by have := (O2.lt g hg).2; omega
          have hb2 : w.heap.size ≤ w2.heap.size := B2.size
          have HN1 := HN.out
          have hn20 : n ≤ 20000 := by omega
          have HHN := Lib.hid hne
          have HO2 := Lib.hid O2
          have HB2 := Lib.hid B2
          clear hst g5 g6 HN1 hne O2 B2 b2 hB HO
          by_cases he : (tokL (s.drop i)).e = 0
          · have hle := lex_ok (f := f) hi hj hlt he
            have htp := tokL_pos (s.drop i) he
            rw [List.length_drop] at htp
            have HP := Lib.hid (hp.out.trans (by rw [hle]))
            obtain ⟨r1, r2, r3⟩ := hr he
            have hxl : x.length = (tokL (s.drop i)).n := by rw [r2, List.length_take, List.length_drop]; omega
            rw [← r1, ← r2, ← r3, ← hxl] at HP
            rw [he, if_pos rfl]
            rw [← hxl] at htp
            clear hle hp hj hr r1 r2 r3 hxl he
            obtain ⟨i', hi'⟩ : ∃ i' : Nat, i + x.length = i' := ⟨_, rfl⟩
            rw [hi'] at HP
            have hsx : (ByteArray.mk x.toArray).size = x.length := by simp [ByteArray.size]
            have hsum : (i : Int) + (x.length : Int) = (i' : Int) := by omega
            have hcl : clampI s (i : Int) = i := by unfold clampI; rw [if_neg (by omega), if_neg (by omega)]; rfl
            have HCL := Lib.hid hcl
            have HI := Lib.hid hi'
            have h7 : i < i' := by omega
            have h8 : i' ≤ s.length := by omega
            clear hcl hi'
            unfold tk0
            go_wp2_with fail
            refine (rat_any s (i : Int) _ (by omega)).mono ?_; rintro e w3 ⟨rfl, b3⟩
            rw [HCL.out]
            have X3 := box_next (heap_alloc_new w2 (.cells (tk0 k x v).toArray 45)) b3
            have X3' : w3.heap[w2.heap.size]? = some (.cells #[.int .i64 k, .string ⟨x.toArray⟩, .int .i64 v.k, .int .i64 v.n, .string ⟨v.s.toArray⟩, .int .i64 0, .int .i64 0, .int .i64 0] 45 (0, 0)) := X3
            clear X3
            have O3 := Lib.hid (own_below (own_below HO2.out ((Below.refl _ _).alloc (Nat.le_refl _) (.cells (tk0 k x v).toArray 45))) b3)
            have B3 := Lib.hid (HB2.out.trans (((Below.refl w2.heap.size w2).alloc (Nat.le_refl _) (.cells (tk0 k x v).toArray 45)).mono hb2 |>.trans (b3.mono (Nat.le_trans hb2 (by simp)))))
            have hlt3 : w2.heap.size < w3.heap.size := (Array.getElem?_eq_some_iff.1 X3').1
            obtain ⟨x0, x1, x2, x3, x4, x5, x6, x7⟩ := cells8 X3'
            obtain ⟨f0, f1, f2, f3, f4, f5, f6, f7⟩ := frozen8 X3'
            obtain ⟨P, hP⟩ : ∃ P : Int, (lineOf s i : Int) = P := ⟨_, rfl⟩
            obtain ⟨Q, hQ⟩ : ∃ Q : Int, (i : Int) - (startOf s i : Int) + 1 = Q := ⟨_, rfl⟩
            have HTC : Hid (tkCells k x v s i = [.int .i64 k, .string ⟨x.toArray⟩, .int .i64 v.k, .int .i64 v.n, .string ⟨v.s.toArray⟩, .int .i64 (i : Int), .int .i64 P, .int .i64 Q]) := Lib.hid (by rw [← hP, ← hQ]; rfl)
            unfold plc pv
            rw [hP, hQ]
            clear hP hQ
            have X4 := Lib.hid (heap_set (i := 7) (heap_set (i := 6) (heap_set (i := 5) X3' (.int .i64 (i : Int))) (.int .i64 P)) (.int .i64 Q))
            have hsn : Hid (Reps (TkC s) (pre ++ [⟨k, x, v, i⟩]) (xs ++ [.int .i64 k, .string ⟨x.toArray⟩, .int .i64 v.k, .int .i64 v.n, .string ⟨v.s.toArray⟩, .int .i64 (i : Int), .int .i64 P, .int .i64 Q])) := Lib.hid (hR.out.append (.one HTC.out.symm))
            have O4 := Lib.hid (own_setN (j := 7) (own_setN (j := 6) (own_setN (j := 5) O3.out (.int .i64 (i : Int)) HHN.out) (.int .i64 P) HHN.out) (.int .i64 Q) HHN.out)
            have B4 := Lib.hid (((B3.out.setCell (p := ⟨w2.heap.size, 5, none⟩) hb2 (.int .i64 (i : Int))).setCell (p := ⟨w2.heap.size, 6, none⟩) hb2 (.int .i64 P)).setCell (p := ⟨w2.heap.size, 7, none⟩) hb2 (.int .i64 Q))
            clear b3 O3 X3'
            go_wp2_with (at_builtin; refine wpList_app rfl (.tmp 56) (.tmp 58) tokE rfl w.heap.size xs rfl (O4.out.alloc _) rfl [.int .i64 k, .string ⟨x.toArray⟩, .int .i64 v.k, .int .i64 v.n, .string ⟨v.s.toArray⟩, .int .i64 (i : Int), .int .i64 P, .int .i64 Q] (Rd.made _ [.int .i64 k, .string ⟨x.toArray⟩, .int .i64 v.k, .int .i64 v.n, .string ⟨v.s.toArray⟩, .int .i64 (i : Int), .int .i64 P, .int .i64 Q] rfl (by simp)) (by simp [Value.oneCell']) (by unfold maxLen; omega) (by omega) (by simp; omega) ?_; intro A4 c4 w4 o4 g4 _; have t4 : w4.cell? ⟨w2.heap.size, 1, none⟩ = some (.string ⟨x.toArray⟩) := by rw [Lib.cell_of_heap (cell_app X4.out g4 HHN.out)]; rfl)
            have hbs := B4.out.size
            go_roundw
            case rel => exact ⟨i', f, n + 1, c4, pre ++ [⟨k, x, v, i⟩], A4, _, rfl, rfl, h8, Lib.hid (by rw [HP.out, List.append_assoc]; rfl), by omega, by simp; omega, Lib.hid (by rw [HN.out]; simp), Lib.hid o4, hsn, below_app (B4.out.alloc hbs _) (O4.out.alloc _) g4 (by simp; omega)⟩
            case measure => simp [intOf]; omega
          · have hle := lex_err (f := f) hi hj hlt he
            have HP := Lib.hid (hp.out.trans (by rw [hle, List.append_nil]))
            have g3 : ((tokL (s.drop i)).e != 0) = true := by simpa using he
            have g4 : ((tokL (s.drop i)).e == 0) = false := by simpa using he
            rw [if_neg he]
            have HE := Lib.hid he
            clear hle hp hj hr he
            generalize tokL (s.drop i) = R at *
            unfold tk0
            go_wp2_with fail
            go_ret3
            refine ⟨?_, HB2.out.alloc hb2 _⟩
            unfold RetRA
            rw [if_pos (by rw [HP.out]; exact HE.out), HP.out]
            rfl
    · obtain rfl : i = s.length := by omega
      obtain ⟨f, rfl⟩ : ∃ f', f = f' + 1 := ⟨f - 1, by omega⟩
      have hle := lex_end (s := s) (i := s.length) (f := f) (by rw [List.drop_length, skip_nil]; simp)
      have HP := Lib.hid (hp.out.trans (by rw [hle, List.append_nil]))
      clear hp hle
      go_wp2_with fail
      go_ret3
      refine ⟨?_, hB⟩
      unfold RetRA
      rw [if_neg (by rw [HP.out]; simp)]
      exact ⟨A, n, c, xs, rfl, HO.out, by rw [HP.out]; exact hR.out⟩
end Go.Proofs.Ytpodniljpinigaa.X
