/- The contract of record.Right. -/
import Derived.Test.YtpkoijlbbfffiaaRecMem
namespace Go.Proofs.Ytpkoijlbbfffiaa.R
open Go.RowKit O V

def okG (x : Chg) : Bool := !(decide (x.table < 0) || (decide (x.table > 1073741824) || ((x.gone && decide ((x.row.length : Int) > 0)) || x.row.any badV)))
def okN (n : Int) : Bool := decide (n ≥ 0) && decide (n ≤ 1073741824)
def rightRec (r : Rec) : Bool := (!r.args.any badV && (!r.emits.any badV && !r.locals.any badV)) && (r.changes.all okG && (okN r.inst && (okN r.proc && (okN r.piece && okN r.fin))))
def RB2 (w : World) (r : Rec) (s : RS) (W : World) : Prop := RBox w r s w.heap.size W ∧ W.heap[w.heap.size + 1]? = some (.cells #[.slice s.a.A s.a.n s.a.c, .slice s.e.A s.e.n s.e.c, .slice s.l.A s.l.n s.l.c] 34 (0, 0))
theorem RB2.next {w W W' : World} {r : Rec} {s : RS} (h : RB2 w r s W) (b : Below W.heap.size W W') : RB2 w r s W' := ⟨h.1.next b, box_next h.2 b⟩
theorem RB2.start (w : World) (r : Rec) (s : RS) : RB2 w r s ((w.alloc (.cells #[.int .i64 r.inst, .int .i64 r.proc, .int .i64 r.piece, .int .i64 r.fin, .slice s.a.A s.a.n s.a.c, .slice s.e.A s.e.n s.e.c, .slice s.l.A s.l.n s.l.c, .slice s.c.A s.c.n s.c.c] 37)).alloc (.cells #[.slice s.a.A s.a.n s.a.c, .slice s.e.A s.e.n s.e.c, .slice s.l.A s.l.n s.l.c] 34)) :=
  ⟨⟨alloc_old' (alloc_at rfl), by repeat (first | exact Below.refl _ _ | refine Below.alloc ?_ (by simp <;> omega) _)⟩, alloc_at (by simp)⟩
def rowsOf (r : Rec) : List (List Val) := [r.args, r.emits, r.locals]
def okR (l : List Val) : Bool := !l.any badV
def shortR (r : Rec) : Prop := (∀ l ∈ rowsOf r, ∀ v ∈ l, v.s.length ≤ 1000000000000) ∧ ∀ c ∈ r.changes, ∀ v ∈ c.row, v.s.length ≤ 1000000000000
theorem rows_no {r : Rec} {k : Nat} {l : List Val} (h : (rowsOf r)[k]? = some l) (hb : l.any badV = true) : rightRec r = false := by
  unfold rowsOf at h
  unfold rightRec
  match k, h with
  | 0, h => simp at h; subst h; rw [hb]; rfl
  | 1, h => simp at h; subst h; rw [hb]; simp
  | 2, h => simp at h; subst h; rw [hb]; simp
  | (k + 3), h => simp at h
theorem rows_yes {r : Rec} (h : (rowsOf r).all okR = true) : rightRec r = (r.changes.all okG && (okN r.inst && (okN r.proc && (okN r.piece && okN r.fin)))) := by
  unfold rowsOf okR at h
  simp only [List.all_cons, List.all_nil, Bool.and_true, Bool.and_eq_true] at h
  unfold rightRec
  rw [h.1, h.2.1, h.2.2]
  rfl
def min4 (x y z u : Int) : Int := min (min (min x y) z) u
def max4 (x y z u : Int) : Int := max (max (max x y) z) u
theorem if_min (x y : Int) : (if y < x then y else x) = min x y := by rw [Int.min_def]; split <;> split <;> omega
theorem if_max (x y : Int) : (if x < y then y else x) = max x y := by rw [Int.max_def]; split <;> split <;> omega
theorem run_min4 (x y z u : Int) (w : World) : (Builtin.min_ #[3, 3, 3, 3] 3 #[.int .i64 x, .int .i64 y, .int .i64 z, .int .i64 u]).run Try.prog w = .ok (.int .i64 (min4 x y z u)) w := by
  simp [Builtin.min_, Builtin.min2, min4, ← if_min]
theorem run_max4 (x y z u : Int) (w : World) : (Builtin.max_ #[3, 3, 3, 3] 3 #[.int .i64 x, .int .i64 y, .int .i64 z, .int .i64 u]).run Try.prog w = .ok (.int .i64 (max4 x y z u)) w := by
  simp [Builtin.max_, Builtin.max2, max4, ← if_max]
theorem min4_ge {x y z u : Int} : decide (min4 x y z u ≥ 0) = (decide (x ≥ 0) && (decide (y ≥ 0) && (decide (z ≥ 0) && decide (u ≥ 0)))) := by
  unfold min4; rw [Bool.eq_iff_iff]; simp; omega
theorem max4_le {x y z u : Int} : decide (max4 x y z u ≤ 1073741824) = (decide (x ≤ 1073741824) && (decide (y ≤ 1073741824) && (decide (z ≤ 1073741824) && decide (u ≤ 1073741824)))) := by
  unfold max4; rw [Bool.eq_iff_iff]; simp; omega
theorem okN4 {x y z u : Int} : (okN x && (okN y && (okN z && okN u))) = (decide (min4 x y z u ≥ 0) && decide (max4 x y z u ≤ 1073741824)) := by
  rw [min4_ge, max4_le]
  unfold okN
  generalize decide (x ≥ 0) = a; generalize decide (y ≥ 0) = b; generalize decide (z ≥ 0) = c; generalize decide (u ≥ 0) = d
  generalize decide (x ≤ 1073741824) = a'; generalize decide (y ≤ 1073741824) = b'; generalize decide (z ≤ 1073741824) = c'; generalize decide (u ≤ 1073741824) = d'
  cases a <;> cases b <;> cases c <;> cases d <;> simp
set_option maxHeartbeats 2000000 in
set_option maxRecDepth 100000 in
theorem rightRec_any (r : Rec) (s : RS) (w : World) (h : RecAt w r s) (hsh : shortR r) : Calls Try.prog 24 #[rv r s] w fun e w' => e = .returned (.bool (rightRec r)) ∧ Below w.heap.size w w' := by
  obtain ⟨sa, se, sl, ⟨A4, n4, c4⟩⟩ := s
  have HR := Lib.hid h
  have hcap : n4 ≤ c4 ∧ c4 ≤ 9223372036854775807 := h.c.cap
  have hlen : r.changes.length = n4 := h.c.len
  have HS := Lib.hid hsh
  have HLn := Lib.hid hlen
  clear h hsh hlen
  simp only [rv]
  have X0 : Hid (RB2 w r ⟨sa, se, sl, ⟨A4, n4, c4⟩⟩ ((w.alloc (.cells #[.int .i64 r.inst, .int .i64 r.proc, .int .i64 r.piece, .int .i64 r.fin, .slice sa.A sa.n sa.c, .slice se.A se.n se.c, .slice sl.A sl.n sl.c, .slice A4 n4 c4] 37)).alloc (.cells #[.slice sa.A sa.n sa.c, .slice se.A se.n se.c, .slice sl.A sl.n sl.c] 34))) := Lib.hid (RB2.start w r ⟨sa, se, sl, ⟨A4, n4, c4⟩⟩)
  go_enter Try.func24, Try.ntmps24
  go_wp2_with fail
  obtain ⟨W0, hW0⟩ : ∃ W0, ((w.alloc (.cells #[.int .i64 r.inst, .int .i64 r.proc, .int .i64 r.piece, .int .i64 r.fin, .slice sa.A sa.n sa.c, .slice se.A se.n se.c, .slice sl.A sl.n sl.c, .slice A4 n4 c4] 37)).alloc (.cells #[.slice sa.A sa.n sa.c, .slice se.A se.n se.c, .slice sl.A sl.n sl.c] 34)) = W0 := ⟨_, rfl⟩
  rw [hW0] at X0 ⊢
  clear hW0
  go_loopw [5, 16] (fun _ i wr => ∃ k : Nat, k ≤ 3 ∧ i = .int .i64 k ∧ Hid (((rowsOf r).take k).all okR = true) ∧ RB2 w r ⟨sa, se, sl, ⟨A4, n4, c4⟩⟩ wr) (fun _ i _ => 3 - (intOf i).toNat)
  case atStart => exact ⟨0, by omega, rfl, Lib.hid (by simp), X0.out⟩
  case round =>
    obtain ⟨k, hk, rfl, H, hX⟩ := hrel
    clear X0
    obtain ⟨y0, y1, y2⟩ := cells3 hX.2
    obtain ⟨⟨⟨x0, x1⟩, x2, x3⟩, ⟨x4, x5⟩, x6, x7⟩ := hX.1.cells
    have HX := Lib.hid hX; clear hX
    obtain rfl | rfl | rfl | rfl : k = 0 ∨ k = 1 ∨ k = 2 ∨ k = 3 := by omega
    · cases hq : r.args.any badV
      · go_wp2_with fail
        refine (contains_bad sa.A sa.n sa.c r.args _ (HR.out.next HX.out.1.2).a (HS.out.1 _ (by simp [rowsOf]))).mono ?_; rintro e w2 ⟨rfl, b2⟩
        rw [hq]
        go_wp2_with fail
        go_roundw
        case rel => exact ⟨1, by omega, by go_num, Lib.hid (by have := H.out; rw [allT_step (by simp [rowsOf]) this]; simp [rowsOf, okR, hq]), HX.out.next b2⟩
        case measure => simp [intOf]
      · have hr := Lib.hid (rows_no (r := r) (k := 0) rfl hq)
        go_wp2_with fail
        refine (contains_bad sa.A sa.n sa.c r.args _ (HR.out.next HX.out.1.2).a (HS.out.1 _ (by simp [rowsOf]))).mono ?_; rintro e w2 ⟨rfl, b2⟩
        rw [hq]
        go_wp2_with fail
        go_ret
        exact ⟨by rw [hr.out]; rfl, (HX.out.next b2).1.2⟩
    · cases hq : r.emits.any badV
      · go_wp2_with fail
        refine (contains_bad se.A se.n se.c r.emits _ (HR.out.next HX.out.1.2).e (HS.out.1 _ (by simp [rowsOf]))).mono ?_; rintro e w2 ⟨rfl, b2⟩
        rw [hq]
        go_wp2_with fail
        go_roundw
        case rel => exact ⟨2, by omega, by go_num, Lib.hid (by have := H.out; rw [allT_step (by simp [rowsOf]) this]; simp [rowsOf, okR, hq]), HX.out.next b2⟩
        case measure => simp [intOf]
      · have hr := Lib.hid (rows_no (r := r) (k := 1) rfl hq)
        go_wp2_with fail
        refine (contains_bad se.A se.n se.c r.emits _ (HR.out.next HX.out.1.2).e (HS.out.1 _ (by simp [rowsOf]))).mono ?_; rintro e w2 ⟨rfl, b2⟩
        rw [hq]
        go_wp2_with fail
        go_ret
        exact ⟨by rw [hr.out]; rfl, (HX.out.next b2).1.2⟩
    · cases hq : r.locals.any badV
      · go_wp2_with fail
        refine (contains_bad sl.A sl.n sl.c r.locals _ (HR.out.next HX.out.1.2).l (HS.out.1 _ (by simp [rowsOf]))).mono ?_; rintro e w2 ⟨rfl, b2⟩
        rw [hq]
        go_wp2_with fail
        go_roundw
        case rel => exact ⟨3, by omega, by go_num, Lib.hid (by have := H.out; rw [allT_step (by simp [rowsOf]) this]; simp [rowsOf, okR, hq]), HX.out.next b2⟩
        case measure => simp [intOf]
      · have hr := Lib.hid (rows_no (r := r) (k := 2) rfl hq)
        go_wp2_with fail
        refine (contains_bad sl.A sl.n sl.c r.locals _ (HR.out.next HX.out.1.2).l (HS.out.1 _ (by simp [rowsOf]))).mono ?_; rintro e w2 ⟨rfl, b2⟩
        rw [hq]
        go_wp2_with fail
        go_ret
        exact ⟨by rw [hr.out]; rfl, (HX.out.next b2).1.2⟩
    · have hy := rows_yes (r := r) H.out
      have HY := Lib.hid hy
      clear hy H y0 y1 y2
      go_wp2_with fail
      go_loopw [7, 27] (fun _ i wr => ∃ k : Nat, k ≤ n4 ∧ i = .int .i64 k ∧ Hid ((r.changes.take k).all okG = true) ∧ RB2 w r ⟨sa, se, sl, ⟨A4, n4, c4⟩⟩ wr) (fun _ i _ => n4 - (intOf i).toNat)
      case atStart => exact ⟨0, by omega, rfl, Lib.hid (by simp), HX.out⟩
      case round =>
        obtain ⟨k, hk, rfl, H, hX⟩ := hrel
        clear HX x0 x1 x2 x3 x4 x5 x6 x7
        obtain ⟨⟨⟨x0, x1⟩, x2, x3⟩, ⟨x4, x5⟩, x6, x7⟩ := hX.1.cells
        have hb := hX.1.2
        have hbs := hb.size
        have HX := Lib.hid hX; clear hX
        by_cases hlt : k < n4
        · have hlt' : k < r.changes.length := by rw [HLn.out]; exact hlt
          obtain ⟨b, off, t, hA, hbl, hv, ho, hc⟩ := HR.out.c.at_ hlt'
          have hA : A4 = some ⟨b, off, none⟩ := hA
          subst hA
          obtain ⟨⟨c0, c1⟩, c2, c3⟩ := hc _ hb
          have hn := Lib.hid (allT_step hlt' H.out)
          have hno := Lib.hid (allT_no (p := okG) hlt')
          have HVr := Lib.hid hv
          have hvl := hv.len
          have hsr := HS.out.2 r.changes[k] (List.getElem_mem hlt')
          clear hc hv
          generalize r.changes[k] = v at *
          have e1 : decide (v.table < 0) = true ∨ decide (v.table < 0) = false := by cases decide (v.table < 0) <;> simp
          have hrl : (v.row.length : Int) = (t.n : Int) := by omega
          have HRL := Lib.hid hrl
          clear hrl hvl ho
          have hok : okG v = !(decide (v.table < 0) || (decide (v.table > 1073741824) || ((v.gone && decide ((t.n : Int) > 0)) || v.row.any badV))) := by unfold okG; rw [HRL.out]
          have HOK := Lib.hid hok
          clear hok
          by_cases h1 : v.table < 0
          · have d1 : decide (v.table < 0) = true := by simp; omega
            have hno' := Lib.hid (hno.out (by rw [HOK.out, d1]; rfl))
            go_wp2_with fail
            go_ret
            exact ⟨by rw [HY.out, hno'.out]; rfl, hb.alloc hbs _⟩
          · have d1 : decide (v.table < 0) = false := by simp; omega
            by_cases h2 : v.table > 1073741824
            · have d2 : decide (v.table > 1073741824) = true := by simp; omega
              have hno' := Lib.hid (hno.out (by rw [HOK.out, d1, d2]; rfl))
              go_wp2_with fail
              go_ret
              exact ⟨by rw [HY.out, hno'.out]; rfl, hb.alloc hbs _⟩
            · have d2 : decide (v.table > 1073741824) = false := by simp; omega
              by_cases h3 : v.gone = true ∧ 0 < t.n
              · obtain ⟨h3, h4⟩ := h3
                have d3 : decide ((t.n : Int) > 0) = true := by simp; omega
                have d3' : decide (0 < t.n) = true := by simp; omega
                have hno' := Lib.hid (hno.out (by rw [HOK.out, d1, d2, h3, d3]; rfl))
                go_wp2_with fail
                go_ret
                exact ⟨by rw [HY.out, hno'.out]; rfl, hb.alloc hbs _⟩
              · have h5 : v.gone = false ∨ (v.gone = true ∧ t.n = 0) := by
                  cases hg : v.gone
                  · exact .inl rfl
                  · exact .inr ⟨rfl, by rw [hg] at h3; simp at h3; omega⟩
                have HG : Hid ((v.gone && decide ((t.n : Int) > 0)) = false) := Lib.hid (by rcases h5 with h | ⟨h, h'⟩ <;> simp [h]; omega)
                clear h3
                cases hq : v.row.any badV
                · have hye : Hid (okG v = true) := Lib.hid (by rw [HOK.out, d1, d2, HG.out, hq]; rfl)
                  rcases h5 with h6 | ⟨h6, h7⟩
                  · go_wp2_with fail
                    refine (contains_bad t.A t.n t.c v.row _ (HVr.out.next (hb.alloc hbs _)) hsr).mono ?_; rintro e w2 ⟨rfl, b2⟩
                    rw [hq]
                    go_wp2_with fail
                    go_roundw
                    case rel => exact ⟨k + 1, by omega, by go_num, Lib.hid (by rw [hn.out, hye.out]), (HX.out.next ((Below.refl _ _).alloc (Nat.le_refl _) _)).next b2⟩
                    case measure => simp [intOf]; omega
                  · have d3 : decide ((t.n : Int) > 0) = false := by simp; omega
                    have d3' : decide (0 < t.n) = false := by simp; omega
                    have H7 := Lib.hid h7
                    clear h7
                    go_wp2_with fail
                    refine (contains_bad t.A t.n t.c v.row _ (HVr.out.next (hb.alloc hbs _)) hsr).mono ?_; rintro e w2 ⟨rfl, b2⟩
                    rw [hq]
                    go_wp2_with fail
                    go_roundw
                    case rel => exact ⟨k + 1, by omega, by go_num, Lib.hid (by rw [hn.out, hye.out]), (HX.out.next ((Below.refl _ _).alloc (Nat.le_refl _) _)).next b2⟩
                    case measure => simp [intOf]; omega
                · have hno' := Lib.hid (hno.out (by rw [HOK.out, d1, d2, HG.out, hq]; rfl))
                  rcases h5 with h6 | ⟨h6, h7⟩
                  · go_wp2_with fail
                    refine (contains_bad t.A t.n t.c v.row _ (HVr.out.next (hb.alloc hbs _)) hsr).mono ?_; rintro e w2 ⟨rfl, b2⟩
                    rw [hq]
                    go_wp2_with fail
                    go_ret
                    exact ⟨by rw [HY.out, hno'.out]; rfl, (hb.alloc hbs _).trans (b2.mono (by simp; omega))⟩
                  · have d3 : decide ((t.n : Int) > 0) = false := by simp; omega
                    have d3' : decide (0 < t.n) = false := by simp; omega
                    have H7 := Lib.hid h7
                    clear h7
                    go_wp2_with fail
                    refine (contains_bad t.A t.n t.c v.row _ (HVr.out.next (hb.alloc hbs _)) hsr).mono ?_; rintro e w2 ⟨rfl, b2⟩
                    rw [hq]
                    go_wp2_with fail
                    go_ret
                    exact ⟨by rw [HY.out, hno'.out]; rfl, (hb.alloc hbs _).trans (b2.mono (by simp; omega))⟩
        · obtain rfl : k = n4 := by omega
          have hall : r.changes.all okG = true := by
            have := H.out
            rwa [← HLn.out, List.take_length] at this
          have HF : Hid (rightRec r = (decide (min4 r.inst r.proc r.piece r.fin ≥ 0) && decide (max4 r.inst r.proc r.piece r.fin ≤ 1073741824))) := Lib.hid (by rw [HY.out, hall, okN4]; rfl)
          clear hall
          have qm := fun w => run_min4 r.inst r.proc r.piece r.fin w
          have qM := fun w => run_max4 r.inst r.proc r.piece r.fin w
          generalize min4 r.inst r.proc r.piece r.fin = a at *
          generalize max4 r.inst r.proc r.piece r.fin = z at *
          by_cases ha : a ≥ 0
          · have d1 : decide (a ≥ 0) = true := by simp; omega
            have HF' : Hid (rightRec r = decide (z ≤ 1073741824)) := Lib.hid (by rw [HF.out, d1]; rfl)
            go_wp2_with fail
            go_ret
            exact ⟨by rw [HF'.out]; rfl, hb⟩
          · have d1 : decide (a ≥ 0) = false := by simp; omega
            have HF' : Hid (rightRec r = false) := Lib.hid (by rw [HF.out, d1]; rfl)
            go_wp2_with fail
            go_ret
            exact ⟨by rw [HF'.out]; rfl, hb⟩
end Go.Proofs.Ytpkoijlbbfffiaa.R
