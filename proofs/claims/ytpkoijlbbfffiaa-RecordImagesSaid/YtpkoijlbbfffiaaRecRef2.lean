/- The contracts of billhookref23's Put, and of billhooklaw23's lives. -/
import Derived.Test.YtpkoijlbbfffiaaRecPut3
import Derived.Test.YtpkoijlbbfffiaaRecRef
namespace Go.Proofs.Ytpkoijlbbfffiaa.R
open Go.RowKit O V

theorem box_grown {w w' : World} {g : Nat} {o : Obj} {row : Option Nat} (h : w.heap[g]? = some o) (hg : w.grownBy w' row) (hne : ∀ k, row = some k → k ≠ g) : w'.heap[g]? = some o := by
  rw [hg.block g (Array.getElem?_eq_some_iff.1 h).1 (fun e => hne g e.symm rfl)]
  exact h
theorem app_ne {X Y : Option Nat} {s g : Nat} (r : X = Y ∨ X = some s) (h : ∀ j, Y = some j → j ≠ g) (hs : g < s) : ∀ j, X = some j → j ≠ g := by
  intro j hj
  rcases r with r | r
  · exact h j (r ▸ hj)
  · rw [r] at hj; injection hj with hj; omega
theorem num_any (n : Nat) (w : World) (h : n ≤ 4611686018427387904) : Calls Try.prog 84 #[.int .i64 (n : Int)] w (RetB (uintL n) w) := by
  go_enter Try.func84, Try.ntmps84
  go_wp2_with fail
  refine (refUint n _ (by omega)).mono ?_; rintro e w1 ⟨A1, n1, c1, rfl, o1, b1⟩
  go_wp2_with fail
  go_ret
  exact ⟨A1, n1, c1, rfl, o1, b1⟩
theorem num_z (n : Int) (w : World) (h : 0 ≤ n) (h2 : n ≤ 4611686018427387904) : Calls Try.prog 84 #[.int .i64 n] w (RetB (uintL n.toNat) w) := by
  obtain ⟨k, rfl⟩ : ∃ k : Nat, n = (k : Int) := ⟨n.toNat, (Int.toNat_of_nonneg h).symm⟩
  exact num_any k w (by omega)
set_option maxRecDepth 100000 in
theorem rval_any (x : Val) (w : World) (hs : x.s.length ≤ 10000) (h1 : -9223372036854775808 ≤ x.n) (h2 : x.n ≤ 9223372036854775807) : Calls Try.prog 133 #[vv x] w (RetB (putVal x) w) := by
  simp only [vv]
  have X0 : Hid ((w.alloc (.cells #[.int .i64 x.k, .int .i64 x.n, .string ⟨x.s.toArray⟩] 23)).heap[w.heap.size]? = some (.cells #[.int .i64 x.k, .int .i64 x.n, .string ⟨x.s.toArray⟩] 23 (0, 0))) := Lib.hid (alloc_at rfl)
  go_enter Try.func133, Try.ntmps133
  go_wp2_with fail
  refine (rright_any x _ (by omega)).mono ?_; rintro e w1 ⟨rfl, b1⟩
  have B1 := Lib.hid (bthen ((Below.refl w.heap.size w).alloc (Nat.le_refl _) _) b1)
  have X1 := Lib.hid (box_next X0.out b1)
  clear b1 X0
  obtain ⟨x0, x1, x2⟩ := cells3 X1.out
  cases hr : right x
  · have hp := Lib.hid (putVal_no hr)
    go_wp2_with fail
    go_ret
    exact ⟨_, 1, 1, rfl, by rw [hp.out]; exact own_lit w1 (bv [0]) B1.out.size (by simp [maxLen]), B1.out.alloc B1.out.size _⟩
  · have hp := Lib.hid (putVal_yes hr)
    go_wp2_with fail
    refine (rbytes_any x _ hs h1 h2).mono ?_; rintro e w2 ⟨A2, n2, c2, rfl, o2, b2⟩
    go_wp2_with fail
    go_ret
    exact ⟨A2, n2, c2, rfl, by rw [hp.out]; exact own_more o2 B1.out.size, bthen B1.out b2⟩
set_option maxHeartbeats 1000000 in
set_option maxRecDepth 100000 in
theorem rvals_any (A : Option Addr) (n c : Nat) (a : List Val) (w : World) (h' : VRow w A n c a) (hla : lightR a = true) :
    Calls Try.prog 85 #[.slice A n c] w (RetB (rowL a) w) := by
  have hl := h'.len
  have hcap := h'.cap
  obtain ⟨hl20, hl100⟩ := lightR_all hla
  have hok := h'.oks
  have hpl : ∀ k, (putVals (a.take k)).length ≤ 20000 := fun k => by
    have := putVals_len (a.take k) (fun v hv => ⟨hok v (List.mem_of_mem_take hv), hl100 v (List.mem_of_mem_take hv)⟩)
    have h2 : (a.take k).length ≤ 20 := by simp; omega
    omega
  have hpv : ∀ v ∈ a, (putVal v).length ≤ 1000 := fun v hv => putVal_len v (hok v hv) (hl100 v hv)
  have hu10 := uintL_len10 n (by omega)
  have HV := Lib.hid h'
  have HL := Lib.hid hl
  have HP := Lib.hid hpl
  have HK := Lib.hid hl100
  have HPV := Lib.hid hpv
  have hn20 : n ≤ 20 := by omega
  clear h' hl hpl hl100 hla hok hl20 hpv
  go_enter Try.func85, Try.ntmps85
  go_wp2_with fail
  refine (num_any n _ (by omega)).mono ?_; rintro e w1 ⟨A1, n1, c1, rfl, o1, b1⟩
  have HO1 := Lib.hid o1
  have HB1 := Lib.hid b1
  clear o1 b1
  go_wp2_with fail
  go_loopw [3, 5, 11] (fun v _ i wr => ∃ (k : Nat) (A1 : Option Addr) (n1 c1 : Nat), k ≤ n ∧ i = .int .i64 k ∧ v = .slice A1 n1 c1 ∧ wr.ownsRow w.heap.size 5 1 (.slice A1 n1 c1) n1 (bv (uintL n ++ putVals (a.take k))) ∧ Below w.heap.size w wr) (fun _ _ i _ => n - (intOf i).toNat)
  case atStart => exact ⟨0, A1, n1, c1, by omega, rfl, rfl, by simpa [putVals] using HO1.out, HB1.out⟩
  case round =>
    obtain ⟨k, A2, n2, c2, hk, rfl, rfl, ho, hb⟩ := hrel
    clear HO1 HB1
    have hn2 : n2 ≤ 30000 := by
      have e1 := own_len ho
      have e2 := HP.out k
      simp at e1
      omega
    have HO := Lib.hid ho
    clear ho
    have hbs := hb.size
    by_cases hlt : k < n
    · have hlt' : k < a.length := by rw [HL.out]; exact hlt
      obtain ⟨b, off, rfl, hbl, hv, hc⟩ := HV.out.at_ hlt'
      obtain ⟨x0, x1, x2⟩ := hc wr hb
      have hst := Lib.hid (putVals_step hlt')
      have h100 := HK.out a[k] (List.getElem_mem hlt')
      have hpv := HPV.out a[k] (List.getElem_mem hlt')
      clear hc
      generalize a[k] = x at *
      go_wp2_with fail
      refine (rval_any x _ (by omega) hv.n1 hv.n2).mono ?_; rintro e w3 ⟨A3, n3, c3, rfl, o3, b3⟩
      have hn3 := own_len o3
      have HO3 := Lib.hid o3
      have B3 : Below w.heap.size w w3 := (hb.alloc hbs _).trans (b3.mono (by simp; omega))
      have HO2 := Lib.hid (own_below (HO.out.alloc _) b3)
      have hbs3 := B3.size
      clear o3 b3
      go_wp2_with (
        at_builtin
        refine wpList_app rfl (.tmp 15) (.tmp 17) byteElem rfl w.heap.size _ rfl (HO2.out) rfl (bv (putVal x)) (Rd.of_own HO3.out) (bv_one _) (by unfold maxLen; omega) (by omega) (by first | omega | (simp; omega)) ?_
        intro A4 c4 w4 o4 g4 r4
        )
      go_roundw
      case rel => exact ⟨k + 1, A4, _, c4, by omega, by go_num, rfl, by rw [hst.out, ← List.append_assoc, bv_append (uintL n ++ putVals (a.take k))]; exact o4, below_app B3 HO2.out g4 hbs3⟩
      case measure => simp [intOf]; omega
    · obtain rfl : k = n := by omega
      go_wp2_with fail
      go_ret
      have := HO.out
      rw [← HL.out, List.take_length] at this
      rw [HL.out] at this
      exact ⟨A2, n2, c2, rfl, by rw [rowL, HL.out]; exact this, hb⟩
theorem chg_start (x : Chg) : chgL x = (uintL x.table.toNat ++ uintL (zig x.key)) ++ (if x.gone then [0] else uintL (x.row.length + 1) ++ putVals x.row) := by unfold chgL; rw [List.append_assoc]
set_option maxHeartbeats 2000000 in
set_option maxRecDepth 100000 in
theorem rchanges_any (A : Option Addr) (n c : Nat) (a : List Chg) (w : World) (h' : HRow w A n c a) (h20 : a.length ≤ 20) (hla : ∀ x ∈ a, COk x) :
    Calls Try.prog 86 #[.slice A n c] w (RetB (rowCL a) w) := by
  have hl := h'.len
  have hcap := h'.cap
  have hpl : ∀ k, (putChgs (a.take k)).length ≤ 400800 := fun k => by
    have := putChgs_len (a.take k) (fun v hv => hla v (List.mem_of_mem_take hv))
    have h2 : (a.take k).length ≤ 20 := by simp; omega
    omega
  have hu10 := uintL_len10 n (by omega)
  have HV := Lib.hid h'
  have HL := Lib.hid hl
  have HP := Lib.hid hpl
  have HK := Lib.hid hla
  have hn20 : n ≤ 20 := by omega
  clear h' hl hpl hla h20
  go_enter Try.func86, Try.ntmps86
  go_wp2_with fail
  refine (num_any n _ (by omega)).mono ?_; rintro e w1 ⟨A1, n1, c1, rfl, o1, b1⟩
  have HO1 := Lib.hid o1
  have HB1 := Lib.hid b1
  clear o1 b1
  go_wp2_with fail
  go_loopw [3, 5, 7, 13] (fun v _ _ i wr => ∃ (k : Nat) (A1 : Option Addr) (n1 c1 : Nat), k ≤ n ∧ i = .int .i64 k ∧ v = .slice A1 n1 c1 ∧ wr.ownsRow w.heap.size 5 1 (.slice A1 n1 c1) n1 (bv (uintL n ++ putChgs (a.take k))) ∧ Below w.heap.size w wr) (fun _ _ _ i _ => n - (intOf i).toNat)
  case atStart => exact ⟨0, A1, n1, c1, by omega, rfl, rfl, by simpa [putChgs] using HO1.out, HB1.out⟩
  case round =>
    obtain ⟨k, A2, n2, c2, hk, rfl, rfl, ho, hb⟩ := hrel
    clear HO1 HB1
    have hn2 : n2 ≤ 500000 := by
      have e1 := own_len ho
      have e2 := HP.out k
      simp at e1
      omega
    have HO := Lib.hid ho
    clear ho
    have hbs := hb.size
    by_cases hlt : k < n
    · have hlt' : k < a.length := by rw [HL.out]; exact hlt
      obtain ⟨b, off, s, rfl, hbl, hv, _, hc⟩ := HV.out.at_ hlt'
      obtain ⟨⟨x0, x1⟩, x2, x3⟩ := hc wr hb
      have hst := Lib.hid (putChgs_step hlt')
      have HCO := Lib.hid (HK.out a[k] (List.getElem_mem hlt'))
      have HVr := Lib.hid hv
      clear hc hv
      generalize a[k] = x at *
      have hch := Lib.hid (chg_start x)
      obtain ⟨A0, n0, c0⟩ := s
      obtain ⟨tb, ky, gn, r⟩ := x
      dsimp only at x0 x1 x2 x3
      have HVr : Hid (VRow w A0 n0 c0 r) := HVr
      have hrl : r.length = n0 := HVr.out.len
      have hr20 : r.length ≤ 20 := (lightR_all HCO.out.l).1
      have hrcap := HVr.out.cap
      have ht0 : 0 ≤ tb := HCO.out.t0
      have ht1 : tb ≤ 1073741824 := HCO.out.t1
      have hk1 : -9223372036854775808 ≤ ky := HCO.out.k1
      have hk2 : ky ≤ 9223372036854775807 := HCO.out.k2
      have hz10 := uintL_len10 (zig ky) (zig_lt _ hk1 hk2)
      have ht10 := uintL_len10 tb.toNat (by omega)
      have hm10 := uintL_len10 (n0 + 1) (by omega)
      have HRL := Lib.hid hrl
      have hn0 : n0 ≤ 20 := by omega
      clear hrl hr20
      have XB : Hid ((wr.alloc (.cells #[.int .i64 tb, .int .i64 ky, .bool gn, .slice A0 n0 c0] 42)).heap[wr.heap.size]? = some (.cells #[.int .i64 tb, .int .i64 ky, .bool gn, .slice A0 n0 c0] 42 (0, 0))) := Lib.hid (alloc_at rfl)
      have hown2 : ∀ j, (Value.slice A2 n2 c2).ownBlock = some j → j ≠ wr.heap.size := fun j hj => by have := (HO.out.lt j hj).2; omega
      have HW2 := Lib.hid hown2
      clear hown2
      go_wp2_with fail
      refine (num_z tb _ ht0 (by omega)).mono ?_; rintro e w3 ⟨A3, n3, c3, rfl, o3, b3⟩
      have hn3 := own_len o3
      have HO3 := Lib.hid o3
      have B3 : Below w.heap.size w w3 := (hb.alloc hbs _).trans (b3.mono (by simp; omega))
      have HO2 := Lib.hid (own_below (HO.out.alloc _) b3)
      have X3 := Lib.hid (box_next XB.out b3)
      have hbs3 := B3.size
      have hgr3 : wr.heap.size + 1 ≤ w3.heap.size := by have := b3.size; simpa using this
      clear o3 b3 XB
      go_wp2_with (
        at_builtin
        refine wpList_app rfl (.tmp 17) (.tmp 20) byteElem rfl w.heap.size _ rfl (HO2.out) rfl (bv (uintL tb.toNat)) (Rd.of_own HO3.out) (bv_one _) (by unfold maxLen; omega) (by omega) (by first | omega | (simp; omega)) ?_
        intro A4 c4 w4 o4 g4 r4
        have X4 := Lib.hid (box_grown X3.out g4 HW2.out)
        have B4 := below_app B3 HO2.out g4 hbs3
        have HO4 : Hid (w4.ownsRow w.heap.size 5 1 (.slice A4 (n2 + n3) c4) (n2 + n3) (bv ((uintL n ++ putChgs (a.take k)) ++ uintL tb.toNat))) := Lib.hid (by rw [bv_append (uintL n ++ putChgs (a.take k))]; exact o4)
        have hgr4 : wr.heap.size + 1 ≤ w4.heap.size := Nat.le_trans hgr3 g4.size
        have HW4 := Lib.hid (app_ne r4 HW2.out (by omega))
        clear o4 g4 HO2 X3 HO3 B3 hgr3 hbs3 HO HW2
        obtain ⟨⟨y0, y1⟩, y2, y3⟩ := cells4 X4.out
        )
      refine (refInt ky _ hk1 hk2).mono ?_; rintro e w5 ⟨A5, n5, c5, rfl, o5, b5⟩
      have hn5 := own_len o5
      have HO5 := Lib.hid o5
      have B5 : Below w.heap.size w w5 := B4.trans (b5.mono B4.size)
      have HO4' := Lib.hid (own_below HO4.out b5)
      have X5 := Lib.hid (box_next X4.out b5)
      have hbs5 := B5.size
      have hg45 := b5.size
      clear o5 b5 X4 y0 y1 y2 y3
      cases gn
      · go_wp2_with (
          at_builtin
          refine wpList_app rfl (.tmp 22) (.tmp 25) byteElem rfl w.heap.size _ rfl (HO4'.out) rfl (bv (uintL (zig ky))) (Rd.of_own HO5.out) (bv_one _) (by unfold maxLen; omega) (by omega) (by first | omega | (simp; omega)) ?_
          intro A6 c6 w6 o6 g6 r6
          have X6 := Lib.hid (box_grown X5.out g6 HW4.out)
          have B6 := below_app B5 HO4'.out g6 hbs5
          have HO6 : Hid (w6.ownsRow w.heap.size 5 1 (.slice A6 (n2 + n3 + n5) c6) (n2 + n3 + n5) (bv (((uintL n ++ putChgs (a.take k)) ++ uintL tb.toNat) ++ uintL (zig ky)))) := Lib.hid (by rw [bv_append ((uintL n ++ putChgs (a.take k)) ++ uintL tb.toNat)]; exact o6)
          have HW6 := Lib.hid (app_ne r6 HW4.out (Nat.lt_of_lt_of_le hgr4 hg45))
          have hgr6 : wr.heap.size + 1 ≤ w6.heap.size := Nat.le_trans (Nat.le_trans hgr4 hg45) g6.size
          clear o6 g6 HO4' X5 HO5 B5 hbs5 HO4 HW4 B4 hgr4 hg45
          obtain ⟨⟨y0, y1⟩, y2, y3⟩ := cells4 X6.out
          )
        refine (num_z ((n0 : Int) + 1) _ (by omega) (by omega)).mono ?_; rintro e w7 ⟨A7, n7, c7, rfl, o7, b7⟩
        have hn7 := own_len o7
        rw [show ((n0 : Int) + 1).toNat = n0 + 1 by omega] at hn7
        have HO7 := Lib.hid o7
        have hbs6 := B6.size
        have B7 : Below w.heap.size w w7 := B6.trans (b7.mono B6.size)
        have HO6' := Lib.hid (own_below HO6.out b7)
        have X7 := Lib.hid (box_next X6.out b7)
        have hbs7 := B7.size
        have hg67 := b7.size
        clear o7 b7 X6 y0 y1 y2 y3
        go_wp2_with (
          at_builtin
          refine wpList_app rfl (.tmp 32) (.tmp 37) byteElem rfl w.heap.size _ rfl (HO6'.out) rfl (bv (uintL ((n0 : Int) + 1).toNat)) (Rd.of_own HO7.out) (bv_one _) (by unfold maxLen; omega) (by omega) (by first | omega | (simp; omega)) ?_
          intro A8 c8 w8 o8 g8 r8
          have X8 := Lib.hid (box_grown X7.out g8 HW6.out)
          have B8 := below_app B7 HO6'.out g8 hbs7
          have HO8 : Hid (w8.ownsRow w.heap.size 5 1 (.slice A8 (n2 + n3 + n5 + n7) c8) (n2 + n3 + n5 + n7) (bv ((((uintL n ++ putChgs (a.take k)) ++ uintL tb.toNat) ++ uintL (zig ky)) ++ uintL (n0 + 1)))) := Lib.hid (by rw [show ((n0 : Int) + 1).toNat = n0 + 1 by omega] at o8; rw [bv_append (((uintL n ++ putChgs (a.take k)) ++ uintL tb.toNat) ++ uintL (zig ky))]; exact o8)
          clear o8 g8 HO6' X7 HO7 B7 hbs7 HO6 B6 HW6 r8 hgr6 hg67
          obtain ⟨⟨y0, y1⟩, y2, y3⟩ := cells4 X8.out
          )
        obtain ⟨P, hP⟩ : ∃ P, (((uintL n ++ putChgs (a.take k)) ++ uintL tb.toNat) ++ uintL (zig ky)) ++ uintL (n0 + 1) = P := ⟨_, rfl⟩
        rw [hP] at HO8
        have hPl := own_len HO8.out
        have HPP := Lib.hid hP
        have HPL := Lib.hid hPl
        have hpl : ∀ k, (putVals (r.take k)).length ≤ 20000 := fun k => by
          have := putVals_len (r.take k) (fun v hv => ⟨HCO.out.o v (List.mem_of_mem_take hv), (lightR_all HCO.out.l).2 v (List.mem_of_mem_take hv)⟩)
          have h2 : (r.take k).length ≤ 20 := by have := HRL.out; simp; omega
          omega
        have HPV := Lib.hid hpl
        have hPb : n2 + n3 + n5 + n7 ≤ 600000 := by omega
        clear hP hPl hpl
        go_loopw [3, 7, 42] (fun v _ i wj => ∃ (j : Nat) (A1 : Option Addr) (n1 c1 : Nat), j ≤ n0 ∧ i = .int .i64 j ∧ v = .slice A1 n1 c1 ∧ wj.ownsRow w.heap.size 5 1 (.slice A1 n1 c1) n1 (bv (P ++ putVals (r.take j))) ∧ Below w.heap.size w wj) (fun _ _ i _ => n0 - (intOf i).toNat)
        case atStart => exact ⟨0, A8, _, c8, by omega, rfl, rfl, by simpa [putVals] using HO8.out, B8⟩
        case round =>
          obtain ⟨j, A9, n9, c9, hj, rfl, rfl, ho, hb9⟩ := hrel
          clear HO8 B8 X8
          have hn9 : n9 ≤ 700000 := by
            have e1 := own_len ho
            have e2 := HPV.out j
            have e3 := HPL.out
            simp at e1
            omega
          have HO := Lib.hid ho
          clear ho
          have hbs9 := hb9.size
          by_cases hlj : j < n0
          · have hlj' : j < r.length := by rw [HRL.out]; exact hlj
            obtain ⟨bb, off2, rfl, hbl2, hv, hc⟩ := HVr.out.at_ hlj'
            obtain ⟨z0, z1, z2⟩ := hc wr hb9
            have hst2 := Lib.hid (putVals_step hlj')
            have h100 := (lightR_all HCO.out.l).2 r[j] (List.getElem_mem hlj')
            have hpv := putVal_len r[j] hv h100
            clear hc
            generalize r[j] = x at *
            go_wp2_with fail
            refine (rval_any x _ (by omega) hv.n1 hv.n2).mono ?_; rintro e w3 ⟨A3, n3, c3, rfl, o3, b3⟩
            have hn3 := own_len o3
            have HO3 := Lib.hid o3
            have B3 : Below w.heap.size w w3 := (hb9.alloc hbs9 _).trans (b3.mono (by simp; omega))
            have HO2 := Lib.hid (own_below (HO.out.alloc _) b3)
            have hbs3 := B3.size
            clear o3 b3
            go_wp2_with (
              at_builtin
              refine wpList_app rfl (.tmp 46) (.tmp 48) byteElem rfl w.heap.size _ rfl (HO2.out) rfl (bv (putVal x)) (Rd.of_own HO3.out) (bv_one _) (by unfold maxLen; omega) (by omega) (by first | omega | (simp; omega)) ?_
              intro A4 c4 w4 o4 g4 r4
              )
            go_roundw
            case rel => exact ⟨j + 1, A4, _, c4, by omega, by go_num, rfl, by rw [hst2.out, ← List.append_assoc, bv_append (P ++ putVals (r.take j))]; exact o4, below_app B3 HO2.out g4 hbs3⟩
            case measure => simp [intOf]; omega
          · obtain rfl : j = n0 := by omega
            go_wp2_with fail
            go_roundw
            case rel => exact ⟨k + 1, A9, _, c9, by omega, by go_num, rfl, by have := HO.out; rw [show r.take j = r by rw [← HRL.out, List.take_length], ← HPP.out] at this; rw [hst.out, hch.out]; simpa [List.append_assoc, HRL.out] using this, hb9⟩
            case measure => simp [intOf]; omega
      · go_wp2_with (first
          | (at_builtin
             refine wpList_app rfl (.tmp 22) (.tmp 25) byteElem rfl w.heap.size _ rfl (HO4'.out) rfl (bv (uintL (zig ky))) (Rd.of_own HO5.out) (bv_one _) (by unfold maxLen; omega) (by omega) (by first | omega | (simp; omega)) ?_
             intro A6 c6 w6 o6 g6 r6
             have X6 := Lib.hid (box_grown X5.out g6 HW4.out)
             have B6 := below_app B5 HO4'.out g6 hbs5
             have HO6 : Hid (w6.ownsRow w.heap.size 5 1 (.slice A6 (n2 + n3 + n5) c6) (n2 + n3 + n5) (bv (((uintL n ++ putChgs (a.take k)) ++ uintL tb.toNat) ++ uintL (zig ky)))) := Lib.hid (by rw [bv_append ((uintL n ++ putChgs (a.take k)) ++ uintL tb.toNat)]; exact o6)
             have HW6 := Lib.hid (app_ne r6 HW4.out (Nat.lt_of_lt_of_le hgr4 hg45))
             have hgr6 : wr.heap.size + 1 ≤ w6.heap.size := Nat.le_trans (Nat.le_trans hgr4 hg45) g6.size
             clear o6 g6 HO4' X5 HO5 B5 hbs5 HO4 HW4 B4 hgr4 hg45
             obtain ⟨⟨y0, y1⟩, y2, y3⟩ := cells4 X6.out)
          | (at_builtin
             refine wpList_app rfl (.tmp 29) (.tmp 30) byteElem rfl w.heap.size _ rfl ((HO6.out.alloc _)) rfl (bv [0]) (Rd.lit _ [.int .u8 0] [0] rfl _ _ 1 rfl) (bv_one _) (by unfold maxLen; omega) (by omega) (by first | omega | (simp; omega)) ?_
             intro A8 c8 w8 o8 g8 r8
             have B8 := below_app (B6.alloc B6.size _) (HO6.out.alloc _) g8 (by have := B6.size; simp; omega)
             have HO8 : Hid (w8.ownsRow w.heap.size 5 1 (.slice A8 (n2 + n3 + n5 + 1) c8) (n2 + n3 + n5 + 1) (bv ((((uintL n ++ putChgs (a.take k)) ++ uintL tb.toNat) ++ uintL (zig ky)) ++ [0]))) := Lib.hid (by rw [bv_append (((uintL n ++ putChgs (a.take k)) ++ uintL tb.toNat) ++ uintL (zig ky))]; exact o8)
             clear o8 g8))
        go_roundw
        case rel => exact ⟨k + 1, A8, _, c8, by omega, by go_num, rfl, by have := HO8.out; rw [hst.out, hch.out]; simpa [List.append_assoc] using this, B8⟩
        case measure => simp [intOf]; omega
    · obtain rfl : k = n := by omega
      go_wp2_with fail
      go_ret
      have := HO.out
      rw [← HL.out, List.take_length] at this
      rw [HL.out] at this
      exact ⟨A2, n2, c2, rfl, by rw [rowCL, HL.out]; exact this, hb⟩
theorem rbox_of {w W0 wr : World} {r : Rec} {s : RS} (h : RBox w r s w.heap.size W0) (b : Below (w.heap.size + 2) W0 wr) : RBox w r s w.heap.size wr :=
  ⟨by rw [b.block _ (by omega)]; exact h.1, h.2.trans (b.mono (by omega))⟩
def uL (l : List Int) : List UInt8 := l.flatMap fun n => uintL n.toNat
theorem uL_step {l : List Int} {k : Nat} (h : k < l.length) : uL (l.take (k + 1)) = uL (l.take k) ++ uintL l[k].toNat := by
  unfold uL
  rw [List.take_succ_eq_append_getElem h, List.flatMap_append]
  simp
theorem uL_len : ∀ (l : List Int), (∀ k ∈ l, k ≤ 1073741824) → (uL l).length ≤ l.length * 10
  | [], _ => by simp [uL]
  | k :: l, h => by
    have h1 := uintL_len10 k.toNat (by have := h k (by simp); omega)
    have h2 := uL_len l (fun j hj => h j (by simp [hj]))
    unfold uL at h2 ⊢
    rw [List.flatMap_cons, List.length_append, List.length_cons]
    omega
theorem nums4_uL (r : Rec) : nums4 r = uL [r.inst, r.proc, r.piece, r.fin] := by simp [nums4, numsL, uL]
theorem rowL_lenK {r : Rec} {s : RS} {w : World} (h : RecAt w r s) (hk : ROk r) (k : Nat) : (rowL (rowOf r k)).length ≤ 20010 := by
  have hl := lightR_all (hk.row k)
  exact rowL_len hl.1 (fun v hv => ⟨(h.row k).oks v hv, hl.2 v hv⟩)
theorem rowCL_len {l : List Chg} (h : l.length ≤ 20) (hk : ∀ x ∈ l, COk x) : (rowCL l).length ≤ 400810 := by
  have h1 := putChgs_len l hk
  have h2 := uintL_len10 l.length (by omega)
  unfold rowCL
  simp
  omega
set_option maxHeartbeats 2000000 in
set_option maxRecDepth 100000 in
theorem rputRec_any (r : Rec) (s : RS) (w : World) (h : RecAt w r s) (hok : ROk r) : Calls Try.prog 29 #[rv r s] w (RetB (putRec r) w) := by
  have HR := Lib.hid h
  have HK := Lib.hid hok
  have hl0 := rowL_lenK h hok 0
  have hl1 := rowL_lenK h hok 1
  have hl2 := rowL_lenK h hok 2
  have hl3 := rowCL_len hok.c.1 hok.c.2
  have hl0 : (rowL r.args).length ≤ 20010 := hl0
  have hl1 : (rowL r.emits).length ≤ 20010 := hl1
  have hl2 : (rowL r.locals).length ≤ 20010 := hl2
  clear h hok
  simp only [rv]
  have X0 : Hid (RBox w r s w.heap.size ((w.alloc (.cells #[.int .i64 r.inst, .int .i64 r.proc, .int .i64 r.piece, .int .i64 r.fin, .slice s.a.A s.a.n s.a.c, .slice s.e.A s.e.n s.e.c, .slice s.l.A s.l.n s.l.c, .slice s.c.A s.c.n s.c.c] 37)).alloc (.cells #[.int .i64 r.inst, .int .i64 r.proc, .int .i64 r.piece, .int .i64 r.fin] 3))) := Lib.hid ⟨alloc_old' (alloc_at rfl), by repeat (first | exact Below.refl _ _ | refine Below.alloc ?_ (by simp <;> omega) _)⟩
  have hI : Hid (Rd ((w.alloc (.cells #[.int .i64 r.inst, .int .i64 r.proc, .int .i64 r.piece, .int .i64 r.fin, .slice s.a.A s.a.n s.a.c, .slice s.e.A s.e.n s.e.c, .slice s.l.A s.l.n s.l.c, .slice s.c.A s.c.n s.c.c] 37)).alloc (.cells #[.int .i64 r.inst, .int .i64 r.proc, .int .i64 r.piece, .int .i64 r.fin] 3)) (w.heap.size + 2) 1 (some ⟨w.heap.size + 1, 0, none⟩) 4 (ivz [r.inst, r.proc, r.piece, r.fin])) := Lib.hid (by
    have := Rd.made (w.alloc (.cells #[.int .i64 r.inst, .int .i64 r.proc, .int .i64 r.piece, .int .i64 r.fin, .slice s.a.A s.a.n s.a.c, .slice s.e.A s.e.n s.e.c, .slice s.l.A s.l.n s.l.c, .slice s.c.A s.c.n s.c.c] 37)) (ivz [r.inst, r.proc, r.piece, r.fin]) (e := 3) (size := 1) (n := 4) (b := w.heap.size + 1) (by simp [ivz]) (by simp)
    exact this.more (by simp))
  go_enter Try.func29, Try.ntmps29
  go_wp2_with fail
  obtain ⟨W0, hW0⟩ : ∃ W0, ((w.alloc (.cells #[.int .i64 r.inst, .int .i64 r.proc, .int .i64 r.piece, .int .i64 r.fin, .slice s.a.A s.a.n s.a.c, .slice s.e.A s.e.n s.e.c, .slice s.l.A s.l.n s.l.c, .slice s.c.A s.c.n s.c.c] 37)).alloc (.cells #[.int .i64 r.inst, .int .i64 r.proc, .int .i64 r.piece, .int .i64 r.fin] 3)) = W0 := ⟨_, rfl⟩
  have hsz : W0.heap.size = w.heap.size + 2 := by rw [← hW0]; simp
  rw [hW0] at X0 hI ⊢
  clear hW0
  have HSZ := Lib.hid hsz
  clear hsz
  have HN : Hid (∀ x ∈ [r.inst, r.proc, r.piece, r.fin], 0 ≤ x ∧ x ≤ 1073741824) := Lib.hid (by have := HK.out.n; simp; omega)
  obtain ⟨ns, hns⟩ : ∃ ns, [r.inst, r.proc, r.piece, r.fin] = ns := ⟨_, rfl⟩
  have hnl : ns.length = 4 := by rw [← hns]; rfl
  have h4 := nums4_uL r
  have hp := putRec_eq r
  rw [h4] at hp
  rw [hns] at hI HN hp
  have HNL := Lib.hid hnl
  have HP := Lib.hid hp
  have hlen : ∀ k, (uL (ns.take k)).length ≤ 40 := fun k => by
    have := uL_len (ns.take k) (fun x hx => (HN.out x (List.mem_of_mem_take hx)).2)
    have h2 : (ns.take k).length ≤ 4 := by simp; omega
    omega
  have HLEN := Lib.hid hlen
  clear hns hnl h4 hp hlen
  go_loopw [3, 5, 16] (fun v _ i wr => ∃ (k : Nat) (A1 : Option Addr) (n1 c1 : Nat), k ≤ 4 ∧ i = .int .i64 k ∧ v = .slice A1 n1 c1 ∧ wr.ownsRow (w.heap.size + 2) 5 1 (.slice A1 n1 c1) n1 (bv (uL (ns.take k))) ∧ Below (w.heap.size + 2) W0 wr) (fun _ _ i _ => 4 - (intOf i).toNat)
  case atStart => exact ⟨0, none, 0, 0, by omega, rfl, rfl, by simp [uL]; exact World.ownsRow_nil _ _ _ _, Below.refl _ _⟩
  case round =>
    obtain ⟨k, A2, n2, c2, hk, rfl, rfl, ho, hb⟩ := hrel
    have hn2 : n2 ≤ 40 := by
      have e1 := own_len ho
      have e2 := HLEN.out k
      omega
    have HO := Lib.hid ho
    clear ho
    have hbs : w.heap.size + 2 ≤ wr.heap.size := by have := hb.size; have := HSZ.out; omega
    by_cases hlt : k < 4
    · have hlt' : k < ns.length := by rw [HNL.out]; exact hlt
      obtain ⟨b, off, e, hbl, hc⟩ := (hI.out.below hb).pos hlt
      injection e with e
      injection e with e1 e2
      subst e1 e2
      have hc0 := hc k hlt
      rw [show (ivz ns)[k]? = some (.int .i64 ns[k]) by simp [ivz, hlt']] at hc0
      rw [Nat.zero_add] at hc0
      have hst := Lib.hid (uL_step hlt')
      obtain ⟨hu0, hu1⟩ := HN.out ns[k] (List.getElem_mem hlt')
      clear hc
      generalize ns[k] = u at *
      have hu10 := uintL_len10 u.toNat (by omega)
      go_wp2_with fail
      refine (num_z u _ hu0 (by omega)).mono ?_; rintro e w3 ⟨A3, n3, c3, rfl, o3, b3⟩
      have hn3 := own_len o3
      have HO3 := Lib.hid o3
      have B3 : Below (w.heap.size + 2) W0 w3 := hb.trans (b3.mono hbs)
      have HO2 := Lib.hid (own_below HO.out b3)
      have hbs3 : w.heap.size + 2 ≤ w3.heap.size := Nat.le_trans hbs b3.size
      clear o3 b3
      go_wp2_with (
        at_builtin
        refine wpList_app rfl (.tmp 20) (.tmp 22) byteElem rfl (w.heap.size + 2) _ rfl (HO2.out) rfl (bv (uintL u.toNat)) (Rd.of_own HO3.out) (bv_one _) (by unfold maxLen; omega) (by omega) (by first | omega | (simp; omega)) ?_
        intro A4 c4 w4 o4 g4 r4
        )
      go_roundw
      case rel => exact ⟨k + 1, A4, _, c4, by omega, by go_num, rfl, by rw [hst.out, bv_append]; exact o4, below_app B3 HO2.out g4 hbs3⟩
      case measure => simp [intOf]; omega
    · obtain rfl : k = 4 := by omega
      have X1 := Lib.hid (rbox_of X0.out hb)
      obtain ⟨⟨⟨x0, x1⟩, x2, x3⟩, ⟨x4, x5⟩, x6, x7⟩ := X1.out.cells
      have HO1 : Hid (wr.ownsRow (w.heap.size + 2) 5 1 (.slice A2 n2 c2) n2 (bv (uL ns))) := Lib.hid (by have := HO.out; rwa [show ns.take 4 = ns by rw [← HNL.out, List.take_length]] at this)
      have hb0 := hb
      have hs0 := hbs
      obtain ⟨w0, hw0⟩ : ∃ w0, wr = w0 := ⟨_, rfl⟩
      obtain ⟨A0, hA0⟩ : ∃ A0, A2 = A0 := ⟨_, rfl⟩
      obtain ⟨c0, hc0⟩ : ∃ c0, c2 = c0 := ⟨_, rfl⟩
      subst hw0 hA0 hc0
      have X0 := X1
      have HO0 := HO1
      clear HO hI X1 HO1 hb hbs
      go_wp2_with fail
      clear x0 x1 x2 x3 x4 x5 x6 x7
      refine (rvals_any s.a.A s.a.n s.a.c r.args _ (HR.out.next X0.out.2).a HK.out.a).mono ?_; rintro e v3 ⟨B3, k3, d3, rfl, o3, b3⟩
      have hk3 := own_len o3
      have HV3 := Lib.hid o3
      have hv3 := hb0.trans (b3.mono hs0)
      have HQ3 := Lib.hid (own_below HO0.out b3)
      have hsv3 : w.heap.size + 2 ≤ v3.heap.size := Nat.le_trans hs0 b3.size
      have XV3 := Lib.hid (X0.out.next b3)
      clear o3 b3
      go_wp2_with (
        at_builtin
        refine wpList_app rfl (.tmp 25) (.tmp 28) byteElem rfl (w.heap.size + 2) _ rfl (HQ3.out) rfl (bv (rowL r.args)) (Rd.of_own HV3.out) (bv_one _) (by unfold maxLen; omega) (by omega) (by first | omega | (simp; omega)) ?_
        intro A3 c3 w3 o3 g3 r3
        have hb3 := below_app hv3 HQ3.out g3 hsv3
        have hs3 : w.heap.size + 2 ≤ w3.heap.size := Nat.le_trans hsv3 g3.size
        have HO3 : Hid (w3.ownsRow (w.heap.size + 2) 5 1 (.slice A3 (n2 + k3) c3) (n2 + k3) (bv ((uL ns) ++ rowL r.args))) := Lib.hid (by rw [bv_append (uL ns)]; exact o3)
        have X3 : Hid (RBox w r s w.heap.size w3) := Lib.hid ⟨box_grown XV3.out.1 g3 (fun j hj => by have := (HQ3.out.lt j hj).1; omega), (XV3.out.2).grown g3 (by omega) (fun j hj => by have := (HQ3.out.lt j hj).1; omega)⟩
        clear o3 g3 r3 HV3 HQ3 XV3 hsv3 hv3
        obtain ⟨⟨⟨x0, x1⟩, x2, x3⟩, ⟨x4, x5⟩, x6, x7⟩ := X3.out.cells
        )
      clear x0 x1 x2 x3 x4 x5 x6 x7
      refine (rvals_any s.e.A s.e.n s.e.c r.emits _ (HR.out.next X3.out.2).e HK.out.e).mono ?_; rintro e v4 ⟨B4, k4, d4, rfl, o4, b4⟩
      have hk4 := own_len o4
      have HV4 := Lib.hid o4
      have hv4 := hb3.trans (b4.mono hs3)
      have HQ4 := Lib.hid (own_below HO3.out b4)
      have hsv4 : w.heap.size + 2 ≤ v4.heap.size := Nat.le_trans hs3 b4.size
      have XV4 := Lib.hid (X3.out.next b4)
      clear o4 b4
      go_wp2_with (
        at_builtin
        refine wpList_app rfl (.tmp 30) (.tmp 33) byteElem rfl (w.heap.size + 2) _ rfl (HQ4.out) rfl (bv (rowL r.emits)) (Rd.of_own HV4.out) (bv_one _) (by unfold maxLen; omega) (by omega) (by first | omega | (simp; omega)) ?_
        intro A4 c4 w4 o4 g4 r4
        have hb4 := below_app hv4 HQ4.out g4 hsv4
        have hs4 : w.heap.size + 2 ≤ w4.heap.size := Nat.le_trans hsv4 g4.size
        have HO4 : Hid (w4.ownsRow (w.heap.size + 2) 5 1 (.slice A4 (n2 + k3 + k4) c4) (n2 + k3 + k4) (bv ((uL ns ++ rowL r.args) ++ rowL r.emits))) := Lib.hid (by rw [bv_append (uL ns ++ rowL r.args)]; exact o4)
        have X4 : Hid (RBox w r s w.heap.size w4) := Lib.hid ⟨box_grown XV4.out.1 g4 (fun j hj => by have := (HQ4.out.lt j hj).1; omega), (XV4.out.2).grown g4 (by omega) (fun j hj => by have := (HQ4.out.lt j hj).1; omega)⟩
        clear o4 g4 r4 HV4 HQ4 XV4 hsv4 hv4
        obtain ⟨⟨⟨x0, x1⟩, x2, x3⟩, ⟨x4, x5⟩, x6, x7⟩ := X4.out.cells
        )
      clear x0 x1 x2 x3 x4 x5 x6 x7
      refine (rvals_any s.l.A s.l.n s.l.c r.locals _ (HR.out.next X4.out.2).l HK.out.l).mono ?_; rintro e v5 ⟨B5, k5, d5, rfl, o5, b5⟩
      have hk5 := own_len o5
      have HV5 := Lib.hid o5
      have hv5 := hb4.trans (b5.mono hs4)
      have HQ5 := Lib.hid (own_below HO4.out b5)
      have hsv5 : w.heap.size + 2 ≤ v5.heap.size := Nat.le_trans hs4 b5.size
      have XV5 := Lib.hid (X4.out.next b5)
      clear o5 b5
      go_wp2_with (
        at_builtin
        refine wpList_app rfl (.tmp 35) (.tmp 38) byteElem rfl (w.heap.size + 2) _ rfl (HQ5.out) rfl (bv (rowL r.locals)) (Rd.of_own HV5.out) (bv_one _) (by unfold maxLen; omega) (by omega) (by first | omega | (simp; omega)) ?_
        intro A5 c5 w5 o5 g5 r5
        have hb5 := below_app hv5 HQ5.out g5 hsv5
        have hs5 : w.heap.size + 2 ≤ w5.heap.size := Nat.le_trans hsv5 g5.size
        have HO5 : Hid (w5.ownsRow (w.heap.size + 2) 5 1 (.slice A5 (n2 + k3 + k4 + k5) c5) (n2 + k3 + k4 + k5) (bv (((uL ns ++ rowL r.args) ++ rowL r.emits) ++ rowL r.locals))) := Lib.hid (by rw [bv_append ((uL ns ++ rowL r.args) ++ rowL r.emits)]; exact o5)
        have X5 : Hid (RBox w r s w.heap.size w5) := Lib.hid ⟨box_grown XV5.out.1 g5 (fun j hj => by have := (HQ5.out.lt j hj).1; omega), (XV5.out.2).grown g5 (by omega) (fun j hj => by have := (HQ5.out.lt j hj).1; omega)⟩
        clear o5 g5 r5 HV5 HQ5 XV5 hsv5 hv5
        obtain ⟨⟨⟨x0, x1⟩, x2, x3⟩, ⟨x4, x5⟩, x6, x7⟩ := X5.out.cells
        )
      clear x0 x1 x2 x3 x4 x5 x6 x7
      refine (rchanges_any s.c.A s.c.n s.c.c r.changes _ (HR.out.next X5.out.2).c HK.out.c.1 HK.out.c.2).mono ?_; rintro e v6 ⟨B6, k6, d6, rfl, o6, b6⟩
      have hk6 := own_len o6
      have HV6 := Lib.hid o6
      have hv6 := hb5.trans (b6.mono hs5)
      have HQ6 := Lib.hid (own_below HO5.out b6)
      have hsv6 : w.heap.size + 2 ≤ v6.heap.size := Nat.le_trans hs5 b6.size
      have XV6 := bthen X5.out.2 b6
      clear o6 b6
      go_wp2_with (
        at_builtin
        refine wpList_app rfl (.tmp 40) (.tmp 43) byteElem rfl (w.heap.size + 2) _ rfl (HQ6.out) rfl (bv (rowCL r.changes)) (Rd.of_own HV6.out) (bv_one _) (by unfold maxLen; omega) (by omega) (by first | omega | (simp; omega)) ?_
        intro A6 c6 w6 o6 g6 r6
        )
      go_ret
      have BW6 := XV6.grown g6 (by omega) (fun j hj => by have := (HQ6.out.lt j hj).1; omega)
      refine ⟨A6, _, c6, rfl, ?_, BW6⟩
      rw [HP.out]
      have := own_more o6 (show w.heap.size ≤ w.heap.size + 2 by omega)
      simpa [bv_append, rows3, List.range_succ, rowOf, List.append_assoc] using this
end Go.Proofs.Ytpkoijlbbfffiaa.R
