/- The contracts of record's numbers, putValue, row, putChange, Put. -/
import Derived.Test.YtpkoijlbbfffiaaRecRight
namespace Go.Proofs.Ytpkoijlbbfffiaa.R
open Go.RowKit O V

def numsL (ns : List Nat) : List UInt8 := ns.flatMap uintL
theorem nums_step {ns : List Nat} {k : Nat} (h : k < ns.length) : numsL (ns.take (k + 1)) = numsL (ns.take k) ++ uintL ns[k] := by
  unfold numsL
  rw [List.take_succ_eq_append_getElem h, List.flatMap_append]
  simp
theorem nums_len : ∀ (ns : List Nat), (∀ k ∈ ns, k ≤ 4611686018427387904) → (numsL ns).length ≤ ns.length * 10
  | [], _ => by simp [numsL]
  | k :: ns, h => by
    have h1 := uintL_len10 k (by have := h k (by simp); omega)
    have h2 := nums_len ns (fun j hj => h j (by simp [hj]))
    unfold numsL at h2 ⊢
    rw [List.flatMap_cons, List.length_append, List.length_cons]
    omega
def iv (ns : List Nat) : List Value := ns.map fun (k : Nat) => Value.int .i64 (k : Int)
set_option maxHeartbeats 1000000 in
set_option maxRecDepth 100000 in
theorem numbers_any (A : Option Addr) (n c : Nat) (l : List UInt8) (A' : Option Addr) (n' c' : Nat) (ns : List Nat) (w : World) (h : Rd w w.heap.size 1 A n (bv l)) (h' : Rd w w.heap.size 1 A' n' (iv ns)) (hns : ∀ k ∈ ns, k ≤ 4611686018427387904) (hn : n ≤ 100000000000) (h1 : 0 < ns.length) (h10 : ns.length ≤ 10) :
    Calls Try.prog 79 #[.slice A n c, .slice A' n' c'] w (RetB (l ++ numsL ns) w) := by
  have hl : ns.length = n' := by have := h'.1; simp [iv] at this; omega
  have hln : l.length = n := by have := h.1; simp at this; omega
  have HL := Lib.hid hl
  have HLn := Lib.hid hln
  have HR := Lib.hid h
  have HR' := Lib.hid h'
  have HN := Lib.hid hns
  have hn' : n' ≤ 10 := by omega
  have hn1 : 0 < n' := by omega
  clear h h' hns h1 h10 hl hln
  go_enter Try.func79, Try.ntmps79
  go_wp2_with fail
  go_loopw [0, 6, 9] (fun v _ i wr => ∃ (k : Nat) (A1 : Option Addr) (n1 c1 : Nat), k ≤ n' ∧ i = .int .i64 k ∧ v = .slice A1 n1 c1 ∧ Rd wr wr.heap.size 1 A1 n1 (bv (l ++ numsL (ns.take k))) ∧ (0 < k → wr.ownsRow w.heap.size 5 1 (.slice A1 n1 c1) n1 (bv (l ++ numsL (ns.take k)))) ∧ Below w.heap.size w wr) (fun _ _ i _ => n' - (intOf i).toNat)
  case atStart => exact ⟨0, A, n, c, by omega, rfl, rfl, by simpa [numsL] using HR.out, fun h => absurd h (by omega), Below.refl _ _⟩
  case round =>
    obtain ⟨k, A1, n1, c1, hk, rfl, rfl, hr, ho, hb⟩ := hrel
    have hn1' : n1 ≤ 100000000100 := by
      have e1 := hr.1
      have e2 := nums_len (ns.take k) (fun j hj => HN.out j (List.mem_of_mem_take hj))
      have e3 := HLn.out
      have e4 := HL.out
      simp at e1 e2
      omega
    have HRr := Lib.hid hr
    have HO := Lib.hid ho
    clear hr ho
    by_cases hlt : k < n'
    · have hlt' : k < ns.length := by rw [HL.out]; exact hlt
      obtain ⟨b, off, rfl, hbl, hc⟩ := HR'.out.pos hlt
      have hc0 := (hb.cell (p := ⟨b, off + k, none⟩) hbl).trans (hc k hlt)
      rw [show (iv ns)[k]? = some (.int .i64 ((ns[k] : Nat) : Int)) by simp [iv, hlt']] at hc0
      have hst := Lib.hid (nums_step hlt')
      have hu := HN.out ns[k] (List.getElem_mem hlt')
      clear hc
      generalize ns[k] = u at *
      have hbs := hb.size
      go_wp2_with fail
      refine (putUint_any A1 n1 c1 u (l ++ numsL (ns.take k)) _ HRr.out (by omega) (by omega)).mono ?_; rintro e w2 ⟨A2, n2, c2, rfl, o2, b2⟩
      have HO2 := Lib.hid o2
      have HB2 := Lib.hid b2
      clear o2 b2
      go_wp2_with fail
      go_roundw
      case rel => exact ⟨k + 1, A2, n2, c2, by omega, by go_num, rfl, by rw [hst.out, ← List.append_assoc]; exact Rd.of_own HO2.out, fun _ => by rw [hst.out, ← List.append_assoc]; exact own_more HO2.out hbs, hb.trans (HB2.out.mono hbs)⟩
      case measure => simp [intOf]; omega
    · obtain rfl : k = n' := by omega
      go_wp2_with fail
      go_ret
      have := HO.out hn1
      rw [← HL.out, List.take_length] at this
      exact ⟨A1, n1, c1, rfl, this, hb⟩
def putVal (x : Val) : List UInt8 := if right x then putV x else [0]
theorem putVal_no {x : Val} (h : right x = false) : putVal x = [0] := by unfold putVal; rw [h]; rfl
theorem putVal_yes {x : Val} (h : right x = true) : putVal x = putV x := by unfold putVal; rw [h]; rfl
set_option maxHeartbeats 1000000 in
set_option maxRecDepth 100000 in
theorem putValue_any (A : Option Addr) (n c : Nat) (l : List UInt8) (x : Val) (w : World) (h : Rd w w.heap.size 1 A n (bv l)) (hn : n ≤ 140737488300000) (hnil : A = none → n = 0) (hs : x.s.length ≤ 10000)
    (h1 : -9223372036854775808 ≤ x.n) (h2 : x.n ≤ 9223372036854775807) : Calls Try.prog 81 #[.slice A n c, vv x] w (RetB (l ++ putVal x) w) := by
  have HR := Lib.hid h
  have hln : l.length = n := by have := h.1; simp at this; omega
  have HLn := Lib.hid hln
  clear h hln
  simp only [vv]
  cases hr : right x
  · have hp := Lib.hid (putVal_no hr)
    go_enter Try.func81, Try.ntmps81
    go_wp2_with fail
    refine (right_any x _ (by omega)).mono ?_; rintro e w1 ⟨rfl, b1⟩
    rw [hr]
    have B1 : Below w.heap.size w w1 := bthen (by repeat (first | exact Below.refl _ _ | refine Below.alloc ?_ (by simp <;> omega) _)) b1
    clear b1
    go_wp2_with fail
    refine (clone_any A n c l _ (HR.out.next B1) (by omega) hnil).mono ?_; rintro e w2 ⟨A2, n2, c2, rfl, o2, b2⟩
    have hn2 : n2 = n := by have := own_len o2; have := HLn.out; omega
    subst hn2
    have HO2 := Lib.hid o2
    have B2 := bthen B1 b2
    have hb2s := b2.size
    have hb1s := B1.size
    clear o2 b2
    go_wp2_with (at_builtin; refine wpList_app rfl (.tmp 9) (.tmp 10) byteElem rfl w1.heap.size _ rfl (HO2.out.alloc _) rfl [.int .u8 0] (Rd.made _ [.int .u8 0] rfl rfl) (by simp [Value.oneCell']) (by unfold maxLen; omega) (by omega) (by simp; omega) ?_; intro A3 c3 w3 o3 g3 _)
    have B3 := below_app (B2.alloc (by omega) _) (own_more (HO2.out.alloc _) hb1s) g3 (by simp; omega)
    go_ret
    rw [hp.out]
    exact ⟨A3, n2 + 1, c3, rfl, by rw [bv_append]; exact own_more o3 hb1s, B3⟩
  · have hp := Lib.hid (putVal_yes hr)
    go_enter Try.func81, Try.ntmps81
    go_wp2_with fail
    refine (right_any x _ (by omega)).mono ?_; rintro e w1 ⟨rfl, b1⟩
    rw [hr]
    have B1 : Below w.heap.size w w1 := bthen (by repeat (first | exact Below.refl _ _ | refine Below.alloc ?_ (by simp <;> omega) _)) b1
    have y : w1.heap[w.heap.size]? = some (.cells #[.int .i64 x.k, .int .i64 x.n, .string ⟨x.s.toArray⟩] 23 (0, 0)) := box_next (by repeat (first | (refine alloc_at ?_; simp; done) | refine alloc_old' ?_)) b1
    have yc0 : w1.cell? ⟨w.heap.size, 0, none⟩ = some (.int .i64 x.k) := by rw [Lib.cell_of_heap y]; rfl
    have yf0 : w1.frozen? ⟨w.heap.size, 0, none⟩ = false := Lib.frozen_of_heap y 0
    have yc1 : w1.cell? ⟨w.heap.size, 1, none⟩ = some (.int .i64 x.n) := by rw [Lib.cell_of_heap y]; rfl
    have yf1 : w1.frozen? ⟨w.heap.size, 1, none⟩ = false := Lib.frozen_of_heap y 1
    have yc2 : w1.cell? ⟨w.heap.size, 2, none⟩ = some (.string ⟨x.s.toArray⟩) := by rw [Lib.cell_of_heap y]; rfl
    have yf2 : w1.frozen? ⟨w.heap.size, 2, none⟩ = false := Lib.frozen_of_heap y 2
    clear b1 y
    go_wp2_with fail
    refine (put_any A n c l x _ (HR.out.next B1) hn hnil hs h1 h2).mono ?_; rintro e w2 ⟨A2, n2, c2, rfl, o2, b2⟩
    go_wp2_with fail
    go_ret
    rw [hp.out]
    exact ⟨A2, n2, c2, rfl, own_more o2 B1.size, bthen B1 b2⟩
def putVals (l : List Val) : List UInt8 := l.flatMap putVal
theorem putVals_step {l : List Val} {k : Nat} (h : k < l.length) : putVals (l.take (k + 1)) = putVals (l.take k) ++ putVal l[k] := by
  unfold putVals
  rw [List.take_succ_eq_append_getElem h, List.flatMap_append]
  simp
theorem putVal_len (x : Val) (ox : VOk x) (hs : x.s.length ≤ 100) : (putVal x).length ≤ 1000 := by
  unfold putVal
  split
  · exact putV_len x ox hs
  · simp
theorem putVals_len : ∀ (a : List Val), (∀ v ∈ a, VOk v ∧ v.s.length ≤ 100) → (putVals a).length ≤ a.length * 1000
  | [], _ => by simp [putVals]
  | v :: a, h => by
    have h1 := putVal_len v (h v (by simp)).1 (h v (by simp)).2
    have h2 := putVals_len a (fun u hu => h u (by simp [hu]))
    unfold putVals at h2 ⊢
    rw [List.flatMap_cons, List.length_append, List.length_cons]
    omega
def rowL (l : List Val) : List UInt8 := uintL l.length ++ putVals l
theorem rowL_len {a : List Val} (h20 : a.length ≤ 20) (h : ∀ v ∈ a, VOk v ∧ v.s.length ≤ 100) : (rowL a).length ≤ 20010 := by
  have := putVals_len a h
  have := uintL_len10 a.length (by omega)
  unfold rowL
  rw [List.length_append]
  omega
theorem own_nil {w : World} {base e size n c : Nat} {A : Option Addr} {xs : List Value} (h : w.ownsRow base e size (.slice A n c) n xs) : A = none → n = 0 := fun e => by
  rcases h.2 with ⟨hv, h0⟩ | ⟨g, cap, cur, hv, _⟩
  · exact h0
  · subst e; cases hv
set_option maxHeartbeats 1000000 in
set_option maxRecDepth 100000 in
theorem rowV_any (A : Option Addr) (n c : Nat) (l : List UInt8) (A' : Option Addr) (n' c' : Nat) (a : List Val) (w : World) (h : Rd w w.heap.size 1 A n (bv l)) (h' : VRow w A' n' c' a) (hla : lightR a = true) (hn : n ≤ 1000000000) :
    Calls Try.prog 80 #[.slice A n c, .slice A' n' c', .func (.func 81) #[] #[]] w (RetB (l ++ rowL a) w) := by
  have hl := h'.len
  have hcap := h'.cap
  obtain ⟨hl20, hl100⟩ := lightR_all hla
  have hok := h'.oks
  have hpl : ∀ k, (putVals (a.take k)).length ≤ 20000 := fun k => by
    have := putVals_len (a.take k) (fun v hv => ⟨hok v (List.mem_of_mem_take hv), hl100 v (List.mem_of_mem_take hv)⟩)
    have h2 : (a.take k).length ≤ 20 := by simp; omega
    omega
  have hln : l.length = n := by have := h.1; simp at this; omega
  have hu10 := uintL_len10 n' (by omega)
  have HR := Lib.hid h
  have HV := Lib.hid h'
  have HL := Lib.hid hl
  have HLn := Lib.hid hln
  have HP := Lib.hid hpl
  have HK := Lib.hid hl100
  have hn20 : n' ≤ 20 := by omega
  clear h h' hl hpl hl100 hla hok hln hl20
  have HI : Hid (Rd (w.alloc (.cells #[.int .i64 (n' : Int)] 3)) (w.alloc (.cells #[.int .i64 (n' : Int)] 3)).heap.size 1 (some ⟨w.heap.size, 0, none⟩) 1 (iv [n'])) := Lib.hid (by have := Rd.built w (.int .i64 (n' : Int)) 3; simpa [iv] using this)
  go_enter Try.func80, Try.ntmps80
  go_wp2_with fail
  refine (numbers_any A n c l (some ⟨w.heap.size, 0, none⟩) 1 1 [n'] _ (HR.out.next ((Below.refl _ _).alloc (Nat.le_refl _) _)) HI.out (by simp; omega) (by omega) (by simp) (by simp)).mono ?_; rintro e w1 ⟨A1, n1, c1, rfl, o1, b1⟩
  have HO1 := Lib.hid (own_more o1 (show w.heap.size ≤ (w.alloc (.cells #[.int .i64 (n' : Int)] 3)).heap.size by simp))
  have HB1 := Lib.hid (((Below.refl w.heap.size w).alloc (Nat.le_refl _) (.cells #[.int .i64 (n' : Int)] 3)).trans (b1.mono (by simp)))
  clear o1 b1
  go_wp2_with fail
  go_loopw [0, 8, 16] (fun v _ i wr => ∃ (k : Nat) (A1 : Option Addr) (n1 c1 : Nat), k ≤ n' ∧ i = .int .i64 k ∧ v = .slice A1 n1 c1 ∧ wr.ownsRow w.heap.size 5 1 (.slice A1 n1 c1) n1 (bv ((l ++ uintL n') ++ putVals (a.take k))) ∧ Below w.heap.size w wr) (fun _ _ i _ => n' - (intOf i).toNat)
  case atStart => exact ⟨0, A1, n1, c1, by omega, rfl, rfl, by simpa [putVals, numsL] using HO1.out, HB1.out⟩
  case round =>
    obtain ⟨k, A2, n2, c2, hk, rfl, rfl, ho, hb⟩ := hrel
    clear HO1 HB1
    have hn2 : n2 ≤ 1000030000 := by
      have e1 := own_len ho
      have e2 := HP.out k
      have e3 := HLn.out
      simp at e1
      omega
    have hnil := own_nil ho
    have HO := Lib.hid ho
    clear ho
    have hbs := hb.size
    by_cases hlt : k < n'
    · have hlt' : k < a.length := by rw [HL.out]; exact hlt
      obtain ⟨b, off, rfl, hbl, hv, hc⟩ := HV.out.at_ hlt'
      obtain ⟨x0, x1, x2⟩ := hc wr hb
      have hst := Lib.hid (putVals_step hlt')
      have h100 := HK.out a[k] (List.getElem_mem hlt')
      clear hc
      generalize a[k] = x at *
      go_wp2_with fail
      refine (putValue_any A2 n2 c2 ((l ++ uintL n') ++ putVals (a.take k)) x _ ((Rd.of_own HO.out).next ((Below.refl _ _).alloc (Nat.le_refl _) _)) (by omega) hnil (by omega) hv.n1 hv.n2).mono ?_; rintro e w3 ⟨A3, n3, c3, rfl, o3, b3⟩
      have HO3 := Lib.hid o3
      have B3 : Below w.heap.size w w3 := (hb.alloc hbs _).trans (b3.mono (by simp; omega))
      clear o3 b3
      go_wp2_with fail
      go_roundw
      case rel => exact ⟨k + 1, A3, n3, c3, by omega, by go_num, rfl, by rw [hst.out, ← List.append_assoc]; exact own_more HO3.out (by simp; omega), B3⟩
      case measure => simp [intOf]; omega
    · obtain rfl : k = n' := by omega
      go_wp2_with fail
      go_ret
      have := HO.out
      rw [← HL.out, List.take_length, List.append_assoc] at this
      rw [HL.out] at this
      exact ⟨A2, n2, c2, rfl, by rw [rowL, HL.out]; exact this, hb⟩
end Go.Proofs.Ytpkoijlbbfffiaa.R
