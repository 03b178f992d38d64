/- The contracts of code's dec, line and Print (layer 15). -/
import Derived.Test.YtpodniljpinigaaDoorCodeFns
import Derived.Test.YtpodniljpinigaaDoorValFns2
import Derived.Test.YtpodniljpinigaaDoorLaws2
import Derived.Test.YtpodniljpinigaaDoorSchedB
namespace Go.Proofs.YtpodniljpinigaaDoor.C
open Go.RowKit O V

abbrev strV (s : List UInt8) : Value := .string ⟨s.toArray⟩
theorem strE : Elem Tryd.prog 43 9 1 16 (.string ByteArray.empty) := by
  obtain ⟨i, hi, h1, h2, h3⟩ := info_parts (show (Tryd.prog.info? 9).map (fun i => (i.zero, i.size, i.bytes)) = some (some (.string ByteArray.empty), 1, 16) by kernel_rfl)
  exact ⟨Tryd.underlying43, i, hi, h1, h2, h3, rfl, by omega⟩
theorem own_capC {w : World} {base e size n c : Nat} {A : Option Addr} {xs : List Value} (h : w.ownsRow base e size (.slice A n c) n xs) : n ≤ c := by
  rcases h.2 with ⟨hv, h0⟩ | ⟨g, cap, cur, hv, _, _, hnc, _⟩
  · rw [h0]; exact Nat.zero_le _
  · injection hv with _ _ hc; rw [hc]; exact hnc
theorem joinC {w : World} {A : Option Addr} {n c : Nat} (l : List (List UInt8)) (h : Rd w w.heap.size 1 A n (l.map strV)) (hn : 0 < n) (hnc : n ≤ c) (hN : n ≤ 140737488355328) (hlen : (jn l).length ≤ 140737488355328) :
    Calls Tryd.prog 41 #[.slice A n c, .string ⟨#[32]⟩] w fun e w' => e = .returned (.string ⟨(jn l).toArray⟩) ∧ Below w.heap.size w w' := by
  have hl : l.length = n := by have := h.1; simp at this; omega
  obtain ⟨b, off, rfl, hb, hc⟩ := h.pos hn
  have he : (l.map fun s => ByteArray.mk s.toArray).map (·.data.toList) = l := by rw [List.map_map]; exact List.map_id l
  have := Tryd.strings_Join b off c (l.map fun s => ⟨s.toArray⟩) ⟨([32] : List UInt8).toArray⟩ w (fun j x hx => by
    have hj : j < l.length := by
      rcases Nat.lt_or_ge j l.length with h | h
      · exact h
      · rw [List.getElem?_eq_none (by simpa using h)] at hx; cases hx
    rw [hc j (by omega)]
    simp [hj] at hx
    subst hx
    simp [hj, strV]) hb (by rw [List.length_map]; omega) (by rw [List.length_map]; omega) (by rw [he, jn_eq]; exact hlen)
  rw [he, List.length_map, hl, jn_eq] at this
  exact this
theorem line_any {w : World} {A : Option Addr} {n c : Nat} (l : List (List UInt8)) (h : Rd w w.heap.size 1 A n (l.map strV)) (hn : 0 < n) (hnc : n ≤ c) (hN : n ≤ 140737488355328) (hlen : (jn l).length ≤ 140737488355328) :
    Calls Tryd.prog 23 #[.slice A n c] w fun e w' => e = .returned (.string ⟨(jn l).toArray⟩) ∧ Below w.heap.size w w' := by
  have H := Lib.hid (joinC (c := c) l h hn hnc hN hlen)
  clear h hlen
  go_enter Tryd.func23, Tryd.ntmps23
  go_wp2_with fail
  refine (H.out).mono ?_; rintro e w1 ⟨rfl, b1⟩
  go_wp2_with fail
  go_ret
  exact ⟨rfl, b1⟩
theorem cdec_any (n : Int) (w : World) (h : fit n) : Calls Tryd.prog 24 #[.int .i64 n] w fun e w' => e = .returned (.string ⟨(decL n).toArray⟩) ∧ Below w.heap.size w w' := by
  have h1 := h.1
  have h2 := h.2
  go_enter Tryd.func24, Tryd.ntmps24
  go_wp2_with fail
  refine (int_any n _).mono ?_; rintro e w1 ⟨rfl, b1⟩
  go_wp2_with fail
  refine (print_any ⟨1, n, []⟩ _ (by simp) h1 h2).mono ?_; rintro e w2 ⟨rfl, b2⟩
  rw [print1]
  go_wp2_with fail
  go_ret
  exact ⟨rfl, bthen b1 b2⟩
/-- An instruction as a value. -/
def insC (x : Ins) : List Value := [.int .i64 x.op, .int .i64 x.a, .int .i64 x.b, .int .i64 x.c, .int .i64 x.d, .int .i64 x.v.k, .int .i64 x.v.n, .string ⟨x.v.s.toArray⟩]
def insV (x : Ins) : Value := .agg (insC x).toArray
theorem cells8c {W : World} {b : Nat} {x0 x1 x2 x3 x4 x5 x6 x7 : Value} {T : TypeId} (h : W.heap[b]? = some (.cells #[x0, x1, x2, x3, x4, x5, x6, x7] T (0, 0))) : W.cell? ⟨b, 0, none⟩ = some x0 ∧ W.cell? ⟨b, 1, none⟩ = some x1 ∧ W.cell? ⟨b, 2, none⟩ = some x2 ∧ W.cell? ⟨b, 3, none⟩ = some x3 ∧ W.cell? ⟨b, 4, none⟩ = some x4 ∧ W.cell? ⟨b, 5, none⟩ = some x5 ∧ W.cell? ⟨b, 6, none⟩ = some x6 ∧ W.cell? ⟨b, 7, none⟩ = some x7 := by
  refine ⟨?_, ?_, ?_, ?_, ?_, ?_, ?_, ?_⟩ <;> (rw [Lib.cell_of_heap h]; rfl)
theorem cell_appC {W w' : World} {o : Obj} {g : Nat} {vs : Array Value} {T : TypeId} {row : Option Nat} (X : W.heap[g]? = some (.cells vs T (0, 0))) (hg : (W.alloc o).grownBy w' row) (hne : ∀ q, row = some q → q ≠ g) : w'.heap[g]? = some (.cells vs T (0, 0)) := by
  have h1 := box_next X ((Below.refl W.heap.size W).alloc (Nat.le_refl _) o)
  exact (hg.block g (Array.getElem?_eq_some_iff.1 h1).1 (fun e => hne g e.symm rfl)).trans h1
theorem below_ownC {w a b : World} {base e size n m : Nat} {A : Option Addr} {c : Nat} {xs : List Value} (h : Below w.heap.size w a) (ho : a.ownsRow base e size (.slice A n c) m xs) (k : a.grownBy b (Value.slice A n c).ownBlock) (hb : w.heap.size ≤ base) : Below w.heap.size w b :=
  ⟨k.os.trans h.os, k.tape.trans h.tape, k.output.trans h.output, Nat.le_trans h.size k.size, fun i hi => (k.block i (Nat.lt_of_lt_of_le hi h.size) (fun e => by have := (ho.lt _ e.symm).1; omega)).trans (h.block i hi)⟩
theorem printV_len (v : Val) (h : fit v.n) : (printV v).length ≤ 2 * v.s.length + 30 := by
  unfold printV
  split
  · split
    · have := V.decL_len v.n h.1 h.2; omega
    · split
      · split <;> simp <;> omega
      · have := escL_len v.s; simp [quoteL]; omega
  · simp
theorem jn_len : ∀ (l : List (List UInt8)) (m : Nat), (∀ w ∈ l, w.length ≤ m) → (jn l).length ≤ l.length * (m + 1)
  | [], m, _ => by simp [jn]
  | [x], m, h => by have := h x (by simp); simp [jn]; omega
  | x :: y :: r, m, h => by
    have h1 := h x (by simp)
    have ih := jn_len (y :: r) m (fun w hw => h w (by simp [hw]))
    rw [jn_two, List.length_append, List.length_cons, List.length_cons, Nat.succ_mul]
    omega
theorem name_len (op : Int) : (nameI op).length ≤ 30 := by
  unfold nameI
  cases kindI op with
  | none => simp
  | some k =>
    rcases Nat.lt_or_ge k 17 with h | h
    · have : ∀ k : Fin 17, (names.getD k.val []).length ≤ 30 := by decide +kernel
      exact this ⟨k, h⟩
    · have : names.getD k [] = [] := by rw [List.getD_eq_getElem?_getD, List.getElem?_eq_none h]; rfl
      show (names.getD k []).length ≤ 30
      rw [this]; simp
theorem words_lens (x : Ins) (hs : x.v.s.length ≤ 1000) (hf : ∀ n ∈ fl x, fit n) (hv : fit x.v.n) : (jn (wordsI x.op ((fl x).take (fieldsI x.op)) x.v)).length ≤ 20000 := by
  have h1 := jn_len (wordsI x.op ((fl x).take (fieldsI x.op)) x.v) 2100 (by
    intro w hw
    unfold wordsI at hw
    simp only [List.mem_cons, List.mem_append, List.mem_map] at hw
    rcases hw with rfl | ⟨n, hn, rfl⟩ | hw
    · have := name_len x.op; omega
    · have hfn := hf n (List.mem_of_mem_take hn)
      have := V.decL_len n hfn.1 hfn.2; omega
    · unfold tailI at hw
      split at hw
      · simp at hw; rw [hw]; have := printV_len x.v hv; omega
      · simp at hw)
  have h2 : (wordsI x.op ((fl x).take (fieldsI x.op)) x.v).length ≤ 6 := by
    have : ((fl x).take (fieldsI x.op)).length ≤ 4 := by rw [List.length_take]; have : (fl x).length = 4 := rfl; omega
    have ht : (tailI x.op x.v).length ≤ 1 := by unfold tailI; split <;> simp
    unfold wordsI
    rw [List.length_cons, List.length_append, List.length_map]
    omega
  have h3 : (wordsI x.op ((fl x).take (fieldsI x.op)) x.v).length * (2100 + 1) ≤ 6 * (2100 + 1) := Nat.mul_le_mul_right _ h2
  omega
theorem fields_le (op : Int) : fieldsI op ≤ 4 := by
  by_cases h : 1 ≤ op ∧ op ≤ 17
  · have := (op_name op.toNat (by omega) (by omega)).2.2
    rwa [show ((op.toNat : Nat) : Int) = op by omega] at this
  · unfold fieldsI kindI; rw [if_neg h]; exact Nat.zero_le _
set_option maxHeartbeats 4000000 in
set_option maxRecDepth 100000 in
theorem cprint_any (x : Ins) (w : World) (hs : x.v.s.length ≤ 1000) (hf : ∀ n ∈ fl x, fit n) (hv : fit x.v.n) : Calls Tryd.prog 12 #[insV x] w fun e w' => e = .returned (.string ⟨(printI x).toArray⟩) ∧ Below w.heap.size w w' := by
  obtain ⟨op, a, b, c, d, ⟨k, m, s⟩⟩ := x
  have HF := Lib.hid hf
  have HV := Lib.hid hv
  have HS := Lib.hid hs
  clear hf hv hs
  unfold insV insC
  go_enter Tryd.func12, Tryd.ntmps12
  go_wp2_with fail
  refine (name_any op _).mono ?_; rintro e w1 ⟨rfl, b1⟩
  have X1 : w1.heap[w.heap.size]? = some (.cells #[.int .i64 op, .int .i64 a, .int .i64 b, .int .i64 c, .int .i64 d, .int .i64 k, .int .i64 m, .string ⟨s.toArray⟩] 29 (0, 0)) := box_next (heap_alloc_new w (.cells (insC ⟨op, a, b, c, d, ⟨k, m, s⟩⟩).toArray 29)) b1
  have B1 : Below w.heap.size w w1 := bthen ((Below.refl _ _).alloc (Nat.le_refl _) _) b1
  have hlt1 : w.heap.size < w1.heap.size := (Array.getElem?_eq_some_iff.1 X1).1
  obtain ⟨N, hN⟩ : ∃ N, nameI op = N := ⟨_, rfl⟩
  have HN := Lib.hid hN
  rw [hN]
  have X2 := box_next X1 ((Below.refl _ _).alloc (Nat.le_refl _) (.cells #[.string ⟨N.toArray⟩] 9))
  have O2 : (w1.alloc (.cells #[.string ⟨N.toArray⟩] 9)).ownsRow w1.heap.size 9 1 (.slice (some ⟨w1.heap.size, 0, none⟩) 1 1) 1 [.string ⟨N.toArray⟩] := World.ownsRow_lit w1 #[.string ⟨N.toArray⟩] 1 (Nat.le_refl _) (by decide) rfl
  have X3 := box_next X2 ((Below.refl _ _).alloc (Nat.le_refl _) (.cells #[.int .i64 a, .int .i64 b, .int .i64 c, .int .i64 d] 58))
  clear hN b1 X1
  obtain ⟨x0, x1, x2, x3, x4, x5, x6, x7⟩ := cells8c X2
  obtain ⟨y0, y1, y2, y3, y4, y5, y6, y7⟩ := cells8c X3
  go_wp2_with fail
  refine (fields_any op _).mono ?_; rintro e w2 ⟨rfl, rfl⟩
  have hF4 : fieldsI op ≤ 4 := fields_le op
  obtain ⟨F, hF⟩ : ∃ F, fieldsI op = F := ⟨_, rfl⟩
  have HFF := Lib.hid hF
  rw [hF] at hF4
  rw [hF]
  have hF5 : (F : Int) ≤ 4 := by omega
  have R3 : ((w1.alloc (.cells #[.string ⟨N.toArray⟩] 9)).alloc (.cells #[.int .i64 a, .int .i64 b, .int .i64 c, .int .i64 d] 58)).heap[w1.heap.size + 1]? = some (.cells #[.int .i64 a, .int .i64 b, .int .i64 c, .int .i64 d] 58 (0, 0)) := alloc_at (by simp)
  have O3 := O2.alloc (.cells #[.int .i64 a, .int .i64 b, .int .i64 c, .int .i64 d] 58)
  have B3 : Below w.heap.size w ((w1.alloc (.cells #[.string ⟨N.toArray⟩] 9)).alloc (.cells #[.int .i64 a, .int .i64 b, .int .i64 c, .int .i64 d] 58)) := bthen B1 (((Below.refl _ _).alloc (Nat.le_refl _) _).alloc (by simp) _)
  clear hF x0 x1 x2 x3 x4 x5 x6 x7 y0 y1 y2 y3 y4 y5 y6 y7 X2 O2 B1
  generalize ((w1.alloc (.cells #[.string ⟨N.toArray⟩] 9)).alloc (.cells #[.int .i64 a, .int .i64 b, .int .i64 c, .int .i64 d] 58)) = W3 at *
  have HX := Lib.hid X3
  have HR := Lib.hid R3
  have HO := Lib.hid O3
  clear X3 R3 O3
  go_wp2_with fail
  go_loopw [3, 25] (fun row iv wr => ∃ (j : Nat) (A : Option Addr) (cc : Nat), j ≤ F ∧ iv = .int .i64 (j : Int) ∧ row = .slice A (j + 1) cc ∧ Hid (wr.ownsRow w1.heap.size 9 1 (.slice A (j + 1) cc) (j + 1) ((N :: (([a, b, c, d] : List Int).take j).map decL).map strV)) ∧ Hid (∀ q, (Value.slice A (j + 1) cc).ownBlock = some q → q ≠ w1.heap.size + 1) ∧ Hid (wr.heap[w.heap.size]? = some (.cells #[.int .i64 op, .int .i64 a, .int .i64 b, .int .i64 c, .int .i64 d, .int .i64 k, .int .i64 m, .string ⟨s.toArray⟩] 29 (0, 0))) ∧ Hid (wr.heap[w1.heap.size + 1]? = some (.cells #[.int .i64 a, .int .i64 b, .int .i64 c, .int .i64 d] 58 (0, 0))) ∧ Below w.heap.size w wr) (fun _ iv _ => F - (intOf iv).toNat)
  case atStart => exact ⟨0, _, 1, by omega, rfl, rfl, Lib.hid HO.out, Lib.hid (fun q hq => by injection hq with hq; simp at hq; omega), HX, HR, B3⟩
  case round =>
    obtain ⟨j, A, cc, hj, rfl, rfl, O, hne, X, R, hB⟩ := hrel
    clear HX HR HO B3
    have hbs := hB.size
    by_cases hlt : j < F
    · have hjF : (j : Int) < (F : Int) := by omega
      obtain ⟨n, hn⟩ : ∃ n, ([a, b, c, d] : List Int)[j]? = some n := ⟨_, List.getElem?_eq_getElem (by simp; omega)⟩
      have hcell : wr.cell? ⟨w1.heap.size + 1, j, none⟩ = some (.int .i64 n) := by
        refine cell_lit (cs := ([a, b, c, d] : List Int).map (fun n => Value.int .i64 n)) R.out ?_
        rw [List.getElem?_map, hn]; rfl
      have hfn := Lib.hid (HF.out n (List.mem_of_getElem? hn))
      have hst : Hid ((([a, b, c, d] : List Int).take (j + 1)).map decL = (([a, b, c, d] : List Int).take j).map decL ++ [decL n]) := Lib.hid (by
        rw [List.take_add_one, hn, List.map_append]; rfl)
      clear hn
      go_wp2_with fail
      refine (cdec_any n _ hfn.out).mono ?_; rintro e w2 ⟨rfl, b2⟩
      have O2 := Lib.hid (own_below O.out b2)
      have X2 := Lib.hid (box_next X.out b2)
      have R2 := Lib.hid (box_next R.out b2)
      have B2 := Lib.hid (hB.trans (b2.mono hbs))
      have hlt2 : w1.heap.size + 1 < w2.heap.size := (Array.getElem?_eq_some_iff.1 R2.out).1
      have hbs2 := B2.out.size
      clear O X R b2 hcell
      go_wp2_with (at_builtin; refine wpList_app rfl (.tmp 29) (.tmp 32) strE rfl w1.heap.size ((N :: (([a, b, c, d] : List Int).take j).map decL).map strV) rfl (O2.out.alloc _) rfl [strV (decL n)] (Rd.made _ [strV (decL n)] rfl (by simp)) (by simp [Value.oneCell']) (by unfold maxLen; omega) (by omega) (by simp; omega) ?_; intro A3 c3 w3 o3 g3 h3)
      rw [show List.map strV (N :: (([a, b, c, d] : List Int).take j).map decL) ++ [strV (decL n)] = List.map strV (N :: (([a, b, c, d] : List Int).take (j + 1)).map decL) by rw [hst.out]; simp] at o3
      go_roundw
      case rel =>
        refine ⟨j + 1, A3, c3, by omega, by go_num, rfl, Lib.hid o3, Lib.hid (fun q hq => ?_), Lib.hid (cell_appC X2.out g3 (fun q hq => ?_)), Lib.hid (cell_appC R2.out g3 hne.out), below_ownC (B2.out.alloc hbs2 _) (O2.out.alloc _) g3 (by omega)⟩
        · rcases h3 with h3 | h3
          · exact hne.out q (h3.symm.trans hq)
          · rw [hq] at h3; injection h3 with h3; rw [h3]; simp; omega
        · have := (O2.out.lt q hq).1; omega
      case measure => simp [intOf]; omega
    · obtain rfl : j = F := by omega
      obtain ⟨x0, x1, x2, x3, x4, x5, x6, x7⟩ := cells8c X.out
      have hpl := words_lens ⟨op, a, b, c, d, ⟨k, m, s⟩⟩ HS.out HF.out HV.out
      have HW : Hid (printI ⟨op, a, b, c, d, ⟨k, m, s⟩⟩ = jn (N :: ((([a, b, c, d] : List Int).take j).map decL ++ tailI op ⟨k, m, s⟩))) := Lib.hid (by
        unfold printI wordsI; rw [HN.out, HFF.out]; rfl)
      have HPL : Hid ((jn (N :: ((([a, b, c, d] : List Int).take j).map decL ++ tailI op ⟨k, m, s⟩))).length ≤ 20000) := Lib.hid (by
        rw [← HW.out]; exact hpl)
      clear hpl hlt
      have hcp := own_capC O.out
      by_cases h1 : op = 1
      · have g1 : (op == 1) = true := by simp [h1]
        have HT : Hid (tailI op ⟨k, m, s⟩ = [printV ⟨k, m, s⟩]) := Lib.hid (by unfold tailI; rw [if_pos h1])
        clear h1
        go_wp2_with fail
        refine (print_any ⟨k, m, s⟩ _ (by have := HS.out; simp at this ⊢; omega) HV.out.1 HV.out.2).mono ?_; rintro e w2 ⟨rfl, b2⟩
        have O2 := Lib.hid (own_below O.out b2)
        have B2 := Lib.hid (hB.trans (b2.mono hbs))
        have hbs2 := B2.out.size
        have hlt2 : w1.heap.size + 1 < w2.heap.size := (Array.getElem?_eq_some_iff.1 (box_next R.out b2)).1
        clear O X R b2 x0 x1 x2 x3 x4 x5 x6 x7
        generalize printV ⟨k, m, s⟩ = pv at *
        go_wp2_with (at_builtin; refine wpList_app rfl (.tmp 38) (.tmp 42) strE rfl w1.heap.size ((N :: (([a, b, c, d] : List Int).take j).map decL).map strV) rfl (O2.out.alloc _) rfl [strV pv] (Rd.made _ [strV pv] rfl (by simp)) (by simp [Value.oneCell']) (by unfold maxLen; omega) (by omega) (by simp; omega) ?_; intro A3 c3 w3 o3 g3 _)
        have B3 := below_ownC (B2.out.alloc hbs2 _) (O2.out.alloc _) g3 (by omega)
        have R3 := Rd.of_own o3
        rw [show List.map strV (N :: (([a, b, c, d] : List Int).take j).map decL) ++ [strV pv] = List.map strV (N :: ((([a, b, c, d] : List Int).take j).map decL ++ tailI op ⟨k, m, s⟩)) by rw [HT.out]; simp] at R3
        refine (line_any _ R3 (by omega) (own_capC o3) (by omega) (by have := HPL.out; omega)).mono ?_; rintro e w4 ⟨rfl, b4⟩
        rw [← HW.out]
        go_wp2_with fail
        go_ret
        exact ⟨rfl, B3.trans (b4.mono B3.size)⟩
      · have g1 : (op == 1) = false := by simp [h1]
        have HT : Hid (tailI op ⟨k, m, s⟩ = []) := Lib.hid (by unfold tailI; rw [if_neg h1])
        clear h1
        go_wp2_with fail
        have R3 := Rd.of_own O.out
        rw [show List.map strV (N :: (([a, b, c, d] : List Int).take j).map decL) = List.map strV (N :: ((([a, b, c, d] : List Int).take j).map decL ++ tailI op ⟨k, m, s⟩)) by rw [HT.out]; simp] at R3
        refine (line_any _ R3 (by omega) hcp (by omega) (by have := HPL.out; omega)).mono ?_; rintro e w4 ⟨rfl, b4⟩
        rw [← HW.out]
        go_wp2_with fail
        go_ret
        exact ⟨rfl, hB.trans (b4.mono hB.size)⟩
end Go.Proofs.YtpodniljpinigaaDoor.C
