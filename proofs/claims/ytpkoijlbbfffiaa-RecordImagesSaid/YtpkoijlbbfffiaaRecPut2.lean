/- The contracts of record's putChange, row of changes, Put, and of billhooklaw23's lives. -/
import Derived.Test.YtpkoijlbbfffiaaRecPut
namespace Go.Proofs.Ytpkoijlbbfffiaa.R
open Go.RowKit O V

def chgL (x : Chg) : List UInt8 := uintL x.table.toNat ++ (uintL (zig x.key) ++ (if x.gone then [0] else uintL (x.row.length + 1) ++ putVals x.row))
def cgv (x : Chg) (s : Sl) : Value := .agg #[.int .i64 x.table, .int .i64 x.key, .bool x.gone, .slice s.A s.n s.c]
theorem cells4 {W : World} {g : Nat} {x y z u : Value} {T : TypeId} (h : W.heap[g]? = some (.cells #[x, y, z, u] T (0, 0))) : (W.cell? ⟨g, 0, none⟩ = some x ∧ W.cell? ⟨g, 1, none⟩ = some y) ∧ W.cell? ⟨g, 2, none⟩ = some z ∧ W.cell? ⟨g, 3, none⟩ = some u :=
  ⟨⟨by rw [Lib.cell_of_heap h]; rfl, by rw [Lib.cell_of_heap h]; rfl⟩, by rw [Lib.cell_of_heap h]; rfl, by rw [Lib.cell_of_heap h]; rfl⟩
/-- A slice of one number, just made. -/
theorem one_iv (w : World) (k : Nat) {x : Int} {g : Nat} (hx : x = (k : Int)) (hg : g = w.heap.size) : Rd (w.alloc (.cells #[.int .i64 x] 3)) (w.alloc (.cells #[.int .i64 x] 3)).heap.size 1 (some ⟨g, 0, none⟩) 1 (iv [k]) := by
  subst hx hg
  have := Rd.built w (.int .i64 (k : Int)) 3
  simpa [iv] using this
theorem chgL_gone {x : Chg} (h : x.gone = true) : chgL x = uintL x.table.toNat ++ (uintL (zig x.key) ++ [0]) := by unfold chgL; rw [h]; rfl
theorem chgL_row {x : Chg} (h : x.gone = false) : chgL x = uintL x.table.toNat ++ (uintL (zig x.key) ++ (uintL (x.row.length + 1) ++ putVals x.row)) := by unfold chgL; rw [h]; rfl
theorem nums_one (k : Nat) : numsL [k] = uintL k := by simp [numsL]
set_option maxHeartbeats 2000000 in
set_option maxRecDepth 100000 in
theorem putChange_any (A : Option Addr) (n c : Nat) (l : List UInt8) (x : Chg) (s : Sl) (w : World) (h : Rd w w.heap.size 1 A n (bv l)) (h' : VRow w s.A s.n s.c x.row) (hla : lightR x.row = true) (hn : n ≤ 2000000000) (ht0 : 0 ≤ x.table) (ht1 : x.table ≤ 1073741824)
    (hk1 : -9223372036854775808 ≤ x.key) (hk2 : x.key ≤ 9223372036854775807) : Calls Try.prog 83 #[.slice A n c, cgv x s] w (RetB (l ++ chgL x) w) := by
  obtain ⟨A', n', c'⟩ := s
  have hl : x.row.length = n' := h'.len
  have hcap : n' ≤ c' ∧ c' ≤ 9223372036854775807 := h'.cap
  obtain ⟨hl20, hl100⟩ := lightR_all hla
  have hok := h'.oks
  obtain ⟨tb, ky, gn, a⟩ := x
  have hl : a.length = n' := hl
  have hl20 : a.length ≤ 20 := hl20
  have hl100 : ∀ v ∈ a, v.s.length ≤ 100 := hl100
  have hok : ∀ v ∈ a, VOk v := hok
  have h' : VRow w A' n' c' a := h'
  have hk1 : -9223372036854775808 ≤ ky := hk1
  have hk2 : ky ≤ 9223372036854775807 := hk2
  obtain ⟨tn, rfl⟩ : ∃ tn : Nat, tb = (tn : Int) := ⟨tb.toNat, (Int.toNat_of_nonneg ht0).symm⟩
  have ht1 : (tn : Int) ≤ 1073741824 := ht1
  clear ht0
  have hpl : ∀ k, (putVals (a.take k)).length ≤ 20000 := fun k => by
    have := putVals_len (a.take k) (fun v hv => ⟨hok v (List.mem_of_mem_take hv), hl100 v (List.mem_of_mem_take hv)⟩)
    have h2 : (a.take k).length ≤ 20 := by simp; omega
    omega
  have hln : l.length = n := by have := h.1; simp at this; omega
  have hz10 := uintL_len10 (zig ky) (zig_lt _ hk1 hk2)
  have ht10 := uintL_len10 tn (by omega)
  have hu10 := uintL_len10 (n' + 1) (by omega)
  have HR := Lib.hid h
  have HV := Lib.hid h'
  have HL := Lib.hid hl
  have HLn := Lib.hid hln
  have HP := Lib.hid hpl
  have HK := Lib.hid hl100
  have hn20 : n' ≤ 20 := by omega
  clear h h' hl hpl hl100 hla hok hln hl20
  simp only [cgv]
  have x0 : (w.alloc (.cells #[.int .i64 (tn : Int), .int .i64 ky, .bool gn, .slice A' n' c'] 42)).drew.heap[w.heap.size]? = some (.cells #[.int .i64 (tn : Int), .int .i64 ky, .bool gn, .slice A' n' c'] 42 (0, 0)) := alloc_at rfl
  have HX0 := Lib.hid x0; clear x0
  have BW0 : Hid (Below w.heap.size w (w.alloc (.cells #[.int .i64 (tn : Int), .int .i64 ky, .bool gn, .slice A' n' c'] 42)).drew) := Lib.hid (((Below.refl _ _).alloc (Nat.le_refl _) _).drew)
  go_enter Try.func83, Try.ntmps83
  go_wp2_with fail
  refine wp_region_sched [(0, true), (1, true), (2, true), (5, true), (6, true), (3, false), (4, false), (7, false), (8, true)] (by kernel_rfl) (by kernel_rfl) (fun _ _ d _ _ h => by cases d <;> exact h) ?_
  refine swith (fun W hW => (cells4 (box_next HX0.out hW.out))) (fun q => ?_)
  repeat (first | (refine sreadx rfl rfl ?_; apply Exists.intro; apply And.intro; (· (intro W hW; first | (go_simp; done) | (go_simp; with_reducible rfl) | (go_simp; rw [if_neg (by omega)]; done) | (go_simp; rw [if_neg (by omega)]; with_reducible rfl))); simp only [Act.put, List.setIfInBounds_toArray, List.set_cons_zero, List.set_cons_succ]) | (refine sskip rfl rfl ?_; simp only [Act.put, List.setIfInBounds_toArray, List.set_cons_zero, List.set_cons_succ]))
  refine scall rfl rfl (fun K hK => ?_)
  go_simp
  refine hK.out _ _ ((Below.refl _ _).alloc (Nat.le_refl _) _) ?_
  clear hK K
  try simp only [Act.put, List.setIfInBounds_toArray, List.set_cons_zero, List.set_cons_succ]
  refine scall rfl rfl (fun K hK => ?_)
  go_simp
  refine (numbers_any A n c l _ 1 1 [tn] _ (HR.out.next ((BW0.out).alloc (BW0.out).size _)) (one_iv _ tn rfl (by simp)) (by simp; omega) (by omega) (by simp) (by simp)).mono ?_; rintro e w3 ⟨A3, n3, c3, rfl, o3, b3⟩
  go_wp2_with fail
  refine hK.out _ _ (by exact b3) ?_
  clear hK K
  try simp only [Act.put, List.setIfInBounds_toArray, List.set_cons_zero, List.set_cons_succ]
  have hn3 : n3 ≤ 2000000010 := by have e1 := own_len o3; rw [nums_one] at e1; have e3 := HLn.out; simp at e1; omega
  refine scall rfl rfl (fun K hK => ?_)
  go_simp
  refine (putInt_any A3 n3 c3 ky (l ++ numsL [tn]) _ (Rd.of_own o3) (by omega) hk1 hk2).mono ?_; rintro e w4 ⟨A4, n4, c4, rfl, o4, b4⟩
  go_wp2_with fail
  refine hK.out _ _ (by exact b4) ?_
  clear hK K
  try simp only [Act.put, List.setIfInBounds_toArray, List.set_cons_zero, List.set_cons_succ]
  repeat (first | (refine sreadx rfl rfl ?_; apply Exists.intro; apply And.intro; (· (intro W hW; first | (go_simp; done) | (go_simp; with_reducible rfl) | (go_simp; rw [if_neg (by omega)]; done) | (go_simp; rw [if_neg (by omega)]; with_reducible rfl))); simp only [Act.put, List.setIfInBounds_toArray, List.set_cons_zero, List.set_cons_succ]) | (refine sskip rfl rfl ?_; simp only [Act.put, List.setIfInBounds_toArray, List.set_cons_zero, List.set_cons_succ]))
  refine sdone ?_
  clear q
  have B3 := bthen ((Below.refl _ _).alloc (Nat.le_refl _) _) b3
  have B4 := bthen B3 b4
  have X4 := box_next HX0.out B4
  have BW4 := bthen BW0.out B4
  have hn4 : n4 ≤ 2000000020 := by have e1 := own_len o4; rw [nums_one] at e1; have e3 := HLn.out; simp at e1; omega
  have O4 : w4.ownsRow w.heap.size 5 1 (.slice A4 n4 c4) n4 (bv ((l ++ uintL tn) ++ uintL (zig ky))) := by
    rw [nums_one] at o4
    exact own_more o4 (Nat.le_trans (BW0.out).size B3.size)
  have HO4 := Lib.hid O4
  have HX4 := Lib.hid X4
  have HB4 := Lib.hid BW4
  obtain ⟨⟨x0, x1⟩, x2, x3⟩ := cells4 X4
  have hb4s := BW4.size
  clear o3 o4 b3 b4 B3 B4 O4 X4 BW4 HX0 BW0 hn3
  cases gn
  · have hch := Lib.hid (chgL_row (x := ⟨(tn : Int), ky, false, a⟩) rfl)
    go_wp2_with fail
    refine (numbers_any A4 n4 c4 ((l ++ uintL tn) ++ uintL (zig ky)) _ 1 1 [n' + 1] _ ((Rd.of_own HO4.out).next ((Below.refl _ _).alloc (Nat.le_refl _) _)) (one_iv _ (n' + 1) (by omega) rfl) (by simp; omega) (by omega) (by simp) (by simp)).mono ?_; rintro e w5 ⟨A5, n5, c5, rfl, o5, b5⟩
    have B5 := bthen ((Below.refl _ _).alloc (Nat.le_refl _) _) b5
    have HX5 := Lib.hid (box_next HX4.out B5)
    have HB5 := Lib.hid (bthen HB4.out B5)
    have HO5 := Lib.hid (own_more o5 (show w.heap.size ≤ _ from Nat.le_trans hb4s (by simp)))
    clear o5 b5 B5 x0 x1 x2 x3
    obtain ⟨⟨x0, x1⟩, x2, x3⟩ := cells4 HX5.out
    go_wp2_with fail
    go_loopw [0, 6, 30] (fun v _ i wr => ∃ (k : Nat) (A1 : Option Addr) (n1 c1 : Nat), k ≤ n' ∧ i = .int .i64 k ∧ v = .slice A1 n1 c1 ∧ wr.ownsRow w.heap.size 5 1 (.slice A1 n1 c1) n1 (bv ((((l ++ uintL tn) ++ uintL (zig ky)) ++ uintL (n' + 1)) ++ putVals (a.take k))) ∧ Below w.heap.size w wr) (fun _ _ i _ => n' - (intOf i).toNat)
    case atStart => exact ⟨0, A5, n5, c5, by omega, rfl, rfl, by have := HO5.out; rw [nums_one] at this; simpa [putVals] using this, HB5.out⟩
    case round =>
      obtain ⟨k, A2, n2, c2, hk, rfl, rfl, ho, hb⟩ := hrel
      clear HO5 HB5 HX5
      have hn2 : n2 ≤ 2000050000 := by
        have e1 := own_len ho
        have e2 := HP.out k
        have e3 := HLn.out
        simp at e1
        omega
      have hnil := own_nil ho
      have HO := Lib.hid ho
      clear ho
      have hbs := hb.size
      by_cases hlt : k < n'
      · have hlt' : k < a.length := by rw [HL.out]; exact hlt
        obtain ⟨b, off, rfl, hbl, hv, hc⟩ := HV.out.at_ hlt'
        obtain ⟨y0, y1, y2⟩ := hc wr hb
        have hst := Lib.hid (putVals_step hlt')
        have h100 := HK.out a[k] (List.getElem_mem hlt')
        clear hc
        generalize a[k] = x at *
        go_wp2_with fail
        refine (putValue_any A2 n2 c2 ((((l ++ uintL tn) ++ uintL (zig ky)) ++ uintL (n' + 1)) ++ putVals (a.take k)) x _ ((Rd.of_own HO.out).next ((Below.refl _ _).alloc (Nat.le_refl _) _)) (by omega) hnil (by omega) hv.n1 hv.n2).mono ?_; rintro e w6 ⟨A6, n6, c6, rfl, o6, b6⟩
        have HO6 := Lib.hid o6
        have B6 : Below w.heap.size w w6 := (hb.alloc hbs _).trans (b6.mono (by simp; omega))
        clear o6 b6
        go_wp2_with fail
        go_roundw
        case rel => exact ⟨k + 1, A6, n6, c6, by omega, by go_num, rfl, by rw [hst.out, ← List.append_assoc]; exact own_more HO6.out (by simp; omega), B6⟩
        case measure => simp [intOf]; omega
      · obtain rfl : k = n' := by omega
        go_wp2_with fail
        go_ret
        have := HO.out
        rw [show a.take k = a by rw [← HL.out, List.take_length]] at this
        refine ⟨A2, n2, c2, rfl, ?_, hb⟩
        rw [hch.out]
        simp only [Int.toNat_natCast, HL.out]
        simpa [List.append_assoc] using this
  · have hch := Lib.hid (chgL_gone (x := ⟨(tn : Int), ky, true, a⟩) rfl)
    go_wp2_with fail
    refine (numbers_any A4 n4 c4 ((l ++ uintL tn) ++ uintL (zig ky)) _ 1 1 [0] _ ((Rd.of_own HO4.out).next ((Below.refl _ _).alloc (Nat.le_refl _) _)) (one_iv _ 0 rfl rfl) (by simp) (by omega) (by simp) (by simp)).mono ?_; rintro e w5 ⟨A5, n5, c5, rfl, o5, b5⟩
    have B5 := bthen ((Below.refl _ _).alloc (Nat.le_refl _) _) b5
    have HB5 := bthen HB4.out B5
    have HO5 := own_more o5 (show w.heap.size ≤ _ from Nat.le_trans hb4s (by simp))
    go_wp2_with fail
    go_ret
    refine ⟨A5, n5, c5, rfl, ?_, HB5⟩
    rw [hch.out]
    rw [nums_one, show uintL 0 = [0] from uintL_lt (by omega)] at HO5
    simp only [Int.toNat_natCast]
    simpa [List.append_assoc] using HO5
end Go.Proofs.Ytpkoijlbbfffiaa.R
