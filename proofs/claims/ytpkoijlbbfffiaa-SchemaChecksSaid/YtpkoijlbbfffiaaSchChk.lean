/- Rows of tables in memory; the contracts of schema.Find, Col, table, Check. -/
import Derived.Test.YtpkoijlbbfffiaaSchOpen
import Derived.Test.YtpkoijlbbfffiaaRecMem
import Derived.Test.YtpkoijlbbfffiaaSchChkPlain
import Derived.Test.YtpkoijlbbfffiaaSchFns
namespace Go.Proofs.Ytpkoijlbbfffiaa.R
open Go.RowKit O V S

def TabC (w : World) (x : Tab) (cs : List Value) : Prop := ∃ s : Sl, cs = [.string ⟨x.name.toArray⟩, .int .i64 x.rows, .slice s.A s.n s.c] ∧ CRow w s.A s.n s.c x.cols ∧ x.name.length ≤ 9223372036854775807 ∧ -9223372036854775808 ≤ x.rows ∧ x.rows ≤ 9223372036854775807
theorem TabC.size {w : World} : ∀ (a : Tab) vs, TabC w a vs → vs.length = 3 := by rintro a vs ⟨s, rfl, _⟩; rfl
def TRow (w : World) (A : Option Addr) (n c : Nat) (l : List Tab) : Prop := ∃ xs, Rd w w.heap.size 3 A n xs ∧ Reps (TabC w) l xs ∧ n ≤ c ∧ c ≤ 9223372036854775807
theorem TRow.len {w : World} {A : Option Addr} {n c : Nat} {l : List Tab} (h : TRow w A n c l) : l.length = n := by
  obtain ⟨xs, h1, h2, _⟩ := h
  exact h1.len_of TabC.size h2 (by omega)
theorem TRow.cap {w : World} {A : Option Addr} {n c : Nat} {l : List Tab} (h : TRow w A n c l) : n ≤ c ∧ c ≤ 9223372036854775807 := by
  obtain ⟨xs, _, _, h3, h4⟩ := h
  exact ⟨h3, h4⟩
theorem TRow.next {w W : World} {A : Option Addr} {n c : Nat} {l : List Tab} (h : TRow w A n c l) (b : Below w.heap.size w W) : TRow W A n c l := by
  obtain ⟨xs, h1, h2, h3, h4⟩ := h
  exact ⟨xs, h1.next b, h2.imp (fun a vs ⟨s, e, hv, r⟩ => ⟨s, e, hv.next b, r⟩), h3, h4⟩
theorem TRow.at_ {w : World} {A : Option Addr} {n c : Nat} {l : List Tab} (h : TRow w A n c l) {k : Nat} (hk : k < l.length) : ∃ b off, ∃ s : Sl, A = some ⟨b, off, none⟩ ∧ b < w.heap.size ∧ CRow w s.A s.n s.c l[k].cols ∧ (l[k].name.length ≤ 9223372036854775807 ∧ -9223372036854775808 ≤ l[k].rows ∧ l[k].rows ≤ 9223372036854775807) ∧
    ∀ W, Below w.heap.size w W → W.cell? ⟨b, off + k * 3, none⟩ = some (.string ⟨l[k].name.toArray⟩) ∧ W.cell? ⟨b, off + k * 3 + 1, none⟩ = some (.int .i64 l[k].rows) ∧ W.cell? ⟨b, off + k * 3 + 2, none⟩ = some (.slice s.A s.n s.c) := by
  obtain ⟨xs, h1, h2, h3, h4⟩ := h
  obtain ⟨b, off, vs, e, hb, ⟨s, rfl, hv, ho⟩, hc⟩ := h1.elem TabC.size h2 hk (by omega)
  refine ⟨b, off, s, e, hb, hv, ho, fun W bW => ⟨?_, ?_, ?_⟩⟩
  · exact (bW.cell (p := ⟨b, off + k * 3 + 0, none⟩) hb).trans (hc 0 (by omega))
  · exact (bW.cell (p := ⟨b, off + k * 3 + 1, none⟩) hb).trans (hc 1 (by omega))
  · exact (bW.cell (p := ⟨b, off + k * 3 + 2, none⟩) hb).trans (hc 2 (by omega))
theorem TRow.take {w : World} {A : Option Addr} {n c : Nat} {l : List Tab} (h : TRow w A n c l) (k : Nat) (hk : k ≤ n) : TRow w A k c (l.take k) := by
  have hl := h.len
  obtain ⟨xs, h1, h2, h3, h4⟩ := h
  refine ⟨xs.take (k * 3), ⟨?_, fun hp => ?_⟩, h2.take TabC.size k, by omega, h4⟩
  · have := h1.1; simp; omega
  · simp at hp
    obtain ⟨b, off, e, hb, hc⟩ := h1.2 (by omega)
    refine ⟨b, off, e, hb, fun j hj => ?_⟩
    simp at hj
    rw [hc j (by omega), List.getElem?_take, if_pos (by omega)]
def hasName (s : List UInt8) (t : Tab) : Bool := t.name == s
def hasCol (s : List UInt8) (t : TCol) : Bool := t.name == s
def errC (cols : List TCol) (k : Nat) : Int := match cols[k]? with
  | none => 0
  | some c => if (!isNameL c.name || (cols.take k).any (hasCol c.name)) = true then 20 else if rightT c.k c.m then 0 else 21
def errT (t : Tab) : Int := if t.rows < 1 ∨ t.rows > 64 then 22 else if t.cols.length = 0 ∨ t.cols.length > 8 then 2 else (firstP (errC t.cols) t.cols.length).1
def errAt (l : List Tab) (k : Nat) : Int := match l[k]? with
  | none => 0
  | some t => if (!isNameL t.name || (l.take k).any (hasName t.name)) = true then 20 else errT t
def checkL (l : List Tab) : Int × Nat := if l.length > 8 then (2, 0) else firstP (errAt l) l.length
theorem found_any (i : Int) (w : World) : Calls Try.prog 109 #[.int .i64 i] w fun e w' => e = .returned (.tuple #[.int .i64 (max i 0), .bool (decide (i ≥ 0))]) ∧ w = w' := by
  go_enter Try.func109, Try.ntmps109
  go_wp2_with fail
  go_ret2
  exact ⟨rfl, rfl⟩
def tab' (t : Tab) (s : Sl) : Value := .agg #[.string ⟨t.name.toArray⟩, .int .i64 t.rows, .slice s.A s.n s.c]
set_option maxRecDepth 100000 in
theorem findP_any (t : Tab) (s : Sl) (g : Nat) (name : List UInt8) (w : World) (hg : w.cell? ⟨g, 0, none⟩ = some (.string ⟨name.toArray⟩)) (hgl : g < w.heap.size) :
    Calls Try.prog 111 #[tab' t s, .pointer (some ⟨g, 0, none⟩)] w fun e w' => e = .returned (.bool (hasName name t)) ∧ Below w.heap.size w w' := by
  simp only [tab']
  have hne : g ≠ w.heap.size := by omega
  cases hq : (t.name == name)
  all_goals
    go_enter Try.func111, Try.ntmps111
    go_wp2_with fail
    go_ret
    exact ⟨by unfold hasName; rw [hq]; rfl, (Below.refl _ _).alloc (Nat.le_refl _) _⟩
set_option maxRecDepth 100000 in
theorem colP_any (t : TCol) (g : Nat) (name : List UInt8) (w : World) (hg : w.cell? ⟨g, 0, none⟩ = some (.string ⟨name.toArray⟩)) (hgl : g < w.heap.size) :
    Calls Try.prog 160 #[.agg #[.string ⟨t.name.toArray⟩, .int .i64 t.k, .int .i64 t.m], .pointer (some ⟨g, 0, none⟩)] w fun e w' => e = .returned (.bool (hasCol name t)) ∧ Below w.heap.size w w' := by
  have hne : g ≠ w.heap.size := by omega
  cases hq : (t.name == name)
  all_goals
    go_enter Try.func160, Try.ntmps160
    go_wp2_with fail
    go_ret
    exact ⟨by unfold hasCol; rw [hq]; rfl, (Below.refl _ _).alloc (Nat.le_refl _) _⟩
set_option maxRecDepth 100000 in
theorem indexT_any (A : Option Addr) (n c : Nat) (l : List Tab) (g : Nat) (name : List UInt8) (w : World) (h : TRow w A n c l) (hg : w.heap[g]? = some (.cells #[.string ⟨name.toArray⟩] 9 (0, 0))) :
    Calls Try.prog 110 #[.slice A n c, .func (.func 111) #[] #[.pointer (some ⟨g, 0, none⟩)]] w fun e w' => e = .returned (.int .i64 (idxI (hasName name) l)) ∧ Below w.heap.size w w' := by
  have hl := h.len
  have hcap := h.cap
  have hgl := (Array.getElem?_eq_some_iff.1 hg).1
  have HV := Lib.hid h
  have HL := Lib.hid hl
  have HG := Lib.hid hg
  clear h hl hg
  go_enter Try.func110, Try.ntmps110
  go_wp2_with fail
  go_loopw [5, 8] (fun _ i wr => ∃ k : Nat, k ≤ n ∧ i = .int .i64 k ∧ Hid ((l.take k).any (hasName name) = false) ∧ Below w.heap.size w wr) (fun _ i _ => n - (intOf i).toNat)
  case atStart => exact ⟨0, by omega, rfl, Lib.hid (by simp), Below.refl _ _⟩
  case round =>
    obtain ⟨k, hk, rfl, H, hb⟩ := hrel
    by_cases hlt : k < n
    · have hlt' : k < l.length := by rw [HL.out]; exact hlt
      obtain ⟨b, off, s, rfl, hbl, hv, ho, hc⟩ := HV.out.at_ hlt'
      obtain ⟨c0, c1, c2⟩ := hc wr hb
      have hcg : wr.cell? ⟨g, 0, none⟩ = some (.string ⟨name.toArray⟩) := by rw [Lib.cell_of_heap ((hb.block g hgl).trans HG.out)]; rfl
      have hno := Lib.hid (fun hp => idxI_here (p := hasName name) hlt' H.out hp)
      have hst := Lib.hid (anyT_step (p := hasName name) hlt' H.out)
      clear hc hv ho
      generalize l[k] = x at *
      go_wp2_with fail
      refine (findP_any x s g name _ hcg (Nat.lt_of_lt_of_le hgl hb.size)).mono ?_; rintro e w2 ⟨rfl, b2⟩
      cases hq : hasName name x
      · have hst' := Lib.hid (hst.out.trans hq)
        go_wp2_with fail
        go_roundw
        case rel => exact ⟨k + 1, by omega, by go_num, hst', hb.trans (b2.mono hb.size)⟩
        case measure => simp [intOf]; omega
      · have hno' := Lib.hid (hno.out hq)
        go_wp2_with fail
        go_ret
        exact ⟨by rw [hno'.out]; rfl, hb.trans (b2.mono hb.size)⟩
    · obtain rfl : k = n := by omega
      go_wp2_with fail
      go_ret
      have := H.out
      rw [← HL.out, List.take_length] at this
      exact ⟨by rw [idxI_no this]; rfl, hb⟩
set_option maxRecDepth 100000 in
theorem indexC_any (A : Option Addr) (n c : Nat) (l : List TCol) (g : Nat) (name : List UInt8) (w : World) (h : CRow w A n c l) (hg : w.heap[g]? = some (.cells #[.string ⟨name.toArray⟩] 9 (0, 0))) :
    Calls Try.prog 159 #[.slice A n c, .func (.func 160) #[] #[.pointer (some ⟨g, 0, none⟩)]] w fun e w' => e = .returned (.int .i64 (idxI (hasCol name) l)) ∧ Below w.heap.size w w' := by
  have hl := h.len
  have hcap := h.cap
  have hgl := (Array.getElem?_eq_some_iff.1 hg).1
  have HV := Lib.hid h
  have HL := Lib.hid hl
  have HG := Lib.hid hg
  clear h hl hg
  go_enter Try.func159, Try.ntmps159
  go_wp2_with fail
  go_loopw [5, 8] (fun _ i wr => ∃ k : Nat, k ≤ n ∧ i = .int .i64 k ∧ Hid ((l.take k).any (hasCol name) = false) ∧ Below w.heap.size w wr) (fun _ i _ => n - (intOf i).toNat)
  case atStart => exact ⟨0, by omega, rfl, Lib.hid (by simp), Below.refl _ _⟩
  case round =>
    obtain ⟨k, hk, rfl, H, hb⟩ := hrel
    by_cases hlt : k < n
    · have hlt' : k < l.length := by rw [HL.out]; exact hlt
      obtain ⟨b, off, rfl, hbl, ho, hc⟩ := HV.out.at_ hlt'
      obtain ⟨c0, c1, c2⟩ := hc wr hb
      have hcg : wr.cell? ⟨g, 0, none⟩ = some (.string ⟨name.toArray⟩) := by rw [Lib.cell_of_heap ((hb.block g hgl).trans HG.out)]; rfl
      have hno := Lib.hid (fun hp => idxI_here (p := hasCol name) hlt' H.out hp)
      have hst := Lib.hid (anyT_step (p := hasCol name) hlt' H.out)
      clear hc ho
      generalize l[k] = x at *
      go_wp2_with fail
      refine (colP_any x g name _ hcg (Nat.lt_of_lt_of_le hgl hb.size)).mono ?_; rintro e w2 ⟨rfl, b2⟩
      cases hq : hasCol name x
      · have hst' := Lib.hid (hst.out.trans hq)
        go_wp2_with fail
        go_roundw
        case rel => exact ⟨k + 1, by omega, by go_num, hst', hb.trans (b2.mono hb.size)⟩
        case measure => simp [intOf]; omega
      · have hno' := Lib.hid (hno.out hq)
        go_wp2_with fail
        go_ret
        exact ⟨by rw [hno'.out]; rfl, hb.trans (b2.mono hb.size)⟩
    · obtain rfl : k = n := by omega
      go_wp2_with fail
      go_ret
      have := H.out
      rw [← HL.out, List.take_length] at this
      exact ⟨by rw [idxI_no this]; rfl, hb⟩
set_option maxRecDepth 100000 in
theorem find_any (A : Option Addr) (n c : Nat) (l : List Tab) (name : List UInt8) (w : World) (h : TRow w A n c l) :
    Calls Try.prog 45 #[.slice A n c, .string ⟨name.toArray⟩] w fun e w' => e = .returned (.tuple #[.int .i64 (max (idxI (hasName name) l) 0), .bool (decide (idxI (hasName name) l ≥ 0))]) ∧ Below w.heap.size w w' := by
  have HV := Lib.hid h
  clear h
  go_enter Try.func45, Try.ntmps45
  go_wp2_with fail
  refine (indexT_any A n c l w.heap.size name _ (HV.out.next ((Below.refl _ _).alloc (Nat.le_refl _) _)) (alloc_at rfl)).mono ?_; rintro e w1 ⟨rfl, b1⟩
  go_wp2_with fail
  refine (found_any _ _).mono ?_; rintro e w2 ⟨rfl, rfl⟩
  go_wp2_with fail
  go_ret2
  exact ⟨rfl, bthen ((Below.refl _ _).alloc (Nat.le_refl _) _) b1⟩
set_option maxRecDepth 100000 in
theorem col_any (t : Tab) (s : Sl) (name : List UInt8) (w : World) (h : CRow w s.A s.n s.c t.cols) :
    Calls Try.prog 145 #[tab' t s, .string ⟨name.toArray⟩] w fun e w' => e = .returned (.tuple #[.int .i64 (max (idxI (hasCol name) t.cols) 0), .bool (decide (idxI (hasCol name) t.cols ≥ 0))]) ∧ Below w.heap.size w w' := by
  have HV := Lib.hid h
  clear h
  simp only [tab']
  have HB : Hid (∀ C D : Obj, Below w.heap.size w ((w.alloc C).alloc D)) := Lib.hid (fun C D => by repeat (first | exact Below.refl _ _ | refine Below.alloc ?_ (by simp <;> omega) _))
  go_enter Try.func145, Try.ntmps145
  go_wp2_with fail
  refine (indexC_any s.A s.n s.c t.cols (w.heap.size + 1) name _ (HV.out.next (HB.out _ _)) (alloc_at (by simp))).mono ?_; rintro e w1 ⟨rfl, b1⟩
  go_wp2_with fail
  refine (found_any _ _).mono ?_; rintro e w2 ⟨rfl, rfl⟩
  go_wp2_with fail
  go_ret2
  exact ⟨rfl, bthen (HB.out _ _) b1⟩
theorem errC_at {cols : List TCol} {k : Nat} (h : k < cols.length) : errC cols k = (if (!isNameL cols[k].name || (cols.take k).any (hasCol cols[k].name)) = true then 20 else if rightT cols[k].k cols[k].m then 0 else 21) := by
  unfold errC; rw [List.getElem?_eq_getElem h]
theorem errAt_at {l : List Tab} {k : Nat} (h : k < l.length) : errAt l k = (if (!isNameL l[k].name || (l.take k).any (hasName l[k].name)) = true then 20 else errT l[k]) := by
  unfold errAt; rw [List.getElem?_eq_getElem h]
theorem dup_col {cols : List TCol} {k : Nat} (h : k < cols.length) : decide (max (idxI (hasCol cols[k].name) cols) 0 < (k : Int)) = (cols.take k).any (hasCol cols[k].name) := by
  obtain ⟨h1, h2, h3⟩ := idxI_lt (p := hasCol cols[k].name) h (by simp [hasCol])
  rw [Bool.eq_iff_iff, ← h3]
  simp; omega
theorem dup_name {l : List Tab} {k : Nat} (h : k < l.length) : decide (max (idxI (hasName l[k].name) l) 0 < (k : Int)) = (l.take k).any (hasName l[k].name) := by
  obtain ⟨h1, h2, h3⟩ := idxI_lt (p := hasName l[k].name) h (by simp [hasName])
  rw [Bool.eq_iff_iff, ← h3]
  simp; omega
theorem isName_len {s : List UInt8} (h : isNameL s = true) : s.length ≤ 16 := by
  unfold isNameL at h
  simp at h
  omega
def TBx (w : World) (t : Tab) (s : Sl) (g : Nat) (W : World) : Prop := W.heap[g]? = some (.cells #[.string ⟨t.name.toArray⟩, .int .i64 t.rows, .slice s.A s.n s.c] 61 (0, 0)) ∧ Below w.heap.size w W
theorem TBx.next {w W W' : World} {t : Tab} {s : Sl} {g : Nat} (h : TBx w t s g W) (b : Below W.heap.size W W') : TBx w t s g W' := ⟨box_next h.1 b, bthen h.2 b⟩
set_option maxHeartbeats 2000000 in
set_option maxRecDepth 100000 in
theorem table_any (t : Tab) (s : Sl) (w : World) (h : CRow w s.A s.n s.c t.cols) (hnl : ∀ c ∈ t.cols, c.name.length ≤ 1000000000000) :
    Calls Try.prog 107 #[tab' t s] w fun e w' => e = .returned (.int .i64 (errT t)) ∧ Below w.heap.size w w' := by
  have hl := h.len
  have hcap := h.cap
  have HV := Lib.hid h
  have HL := Lib.hid hl
  have HN := Lib.hid hnl
  have X0 : Hid (TBx w t s w.heap.size (w.alloc (.cells #[.string ⟨t.name.toArray⟩, .int .i64 t.rows, .slice s.A s.n s.c] 61))) := Lib.hid ⟨alloc_at rfl, (Below.refl _ _).alloc (Nat.le_refl _) _⟩
  have het : Hid (errT t = if t.rows < 1 ∨ t.rows > 64 then 22 else if s.n = 0 ∨ s.n > 8 then 2 else (firstP (errC t.cols) s.n).1) := Lib.hid (by unfold errT; rw [hl])
  clear h hl hnl
  simp only [tab']
  by_cases h1 : t.rows < 1
  · have d1 : decide (t.rows < 1) = true := by simp; omega
    go_enter Try.func107, Try.ntmps107
    go_wp2_with fail
    go_ret
    exact ⟨by rw [het.out, if_pos (.inl h1)]; rfl, X0.out.2⟩
  have d1 : decide (t.rows < 1) = false := by simp; omega
  by_cases h2 : t.rows > 64
  · have d2 : decide (t.rows > 64) = true := by simp; omega
    go_enter Try.func107, Try.ntmps107
    go_wp2_with fail
    go_ret
    exact ⟨by rw [het.out, if_pos (.inr h2)]; rfl, X0.out.2⟩
  have d2 : decide (t.rows > 64) = false := by simp; omega
  have het2 := Lib.hid (het.out.trans (if_neg (show ¬ (t.rows < 1 ∨ t.rows > 64) by omega)))
  by_cases h3 : s.n = 0
  · have d3 : ((s.n : Int) == 0) = true := by simp; omega
    have d3' : decide (s.n = 0) = true := by simp; omega
    have het3 := Lib.hid (het2.out.trans (if_pos (.inl h3)))
    have H3 := Lib.hid h3
    clear h3
    go_enter Try.func107, Try.ntmps107
    go_wp2_with fail
    go_ret
    exact ⟨by rw [het3.out]; rfl, X0.out.2⟩
  have d3 : ((s.n : Int) == 0) = false := by simp; omega
  have d3' : decide (s.n = 0) = false := by simp; omega
  by_cases h4 : s.n > 8
  · have d4 : decide ((s.n : Int) > 8) = true := by simp; omega
    have het3 := Lib.hid (het2.out.trans (if_pos (.inr h4)))
    go_enter Try.func107, Try.ntmps107
    go_wp2_with fail
    go_ret
    exact ⟨by rw [het3.out]; rfl, X0.out.2⟩
  have d4 : decide ((s.n : Int) > 8) = false := by simp; omega
  have het3 := Lib.hid (het2.out.trans (if_neg (show ¬ (s.n = 0 ∨ s.n > 8) by omega)))
  obtain ⟨A, n, c⟩ := s
  dsimp only at *
  go_enter Try.func107, Try.ntmps107
  go_wp2_with fail
  go_loopw [3, 4, 5, 6, 30] (fun _ _ _ _ i wr => ∃ k : Nat, k ≤ n ∧ i = .int .i64 k ∧ Hid (∀ j, j < k → errC t.cols j = 0) ∧ TBx w t ⟨A, n, c⟩ w.heap.size wr) (fun _ _ _ _ i _ => n - (intOf i).toNat)
  case atStart => exact ⟨0, by omega, rfl, Lib.hid (fun j hj => absurd hj (by omega)), X0.out⟩
  case round =>
    obtain ⟨k, hk, rfl, H, hX⟩ := hrel
    clear X0
    by_cases hlt : k < n
    · have hlt' : k < t.cols.length := by rw [HL.out]; exact hlt
      obtain ⟨b, off, hA, hbl, ho, hc⟩ := HV.out.at_ hlt'
      have hA : A = some ⟨b, off, none⟩ := hA
      subst hA
      obtain ⟨c0, c1, c2⟩ := hc wr hX.2
      obtain ⟨x0, x1, x2⟩ := cells3 hX.1
      have hbs := hX.2.size
      have hlt0 : w.heap.size < wr.heap.size := (Array.getElem?_eq_some_iff.1 hX.1).1
      have hec := Lib.hid (errC_at hlt')
      have hdup := Lib.hid (dup_col hlt')
      have hhere := Lib.hid (fun hne => firstP_here (f := errC t.cols) (n := n) hlt H.out hne)
      have hstep := Lib.hid (fun hz => zero_step (f := errC t.cols) (k := k) H.out hz)
      have hl16 := HN.out t.cols[k] (List.getElem_mem hlt')
      have HX := Lib.hid hX
      clear hc hX ho
      generalize t.cols[k] = y at *
      go_wp2_with fail
      have HX1 := Lib.hid (HX.out.next ((Below.refl _ _).alloc (Nat.le_refl _) (.cells #[.string ⟨y.name.toArray⟩, .int .i64 y.k, .int .i64 y.m] 131)))
      have Y1 : Hid ((wr.alloc (.cells #[.string ⟨y.name.toArray⟩, .int .i64 y.k, .int .i64 y.m] 131)).heap[wr.heap.size]? = some (.cells #[.string ⟨y.name.toArray⟩, .int .i64 y.k, .int .i64 y.m] 131 (0, 0))) := Lib.hid (alloc_at rfl)
      refine (col_any t ⟨some ⟨b, off, none⟩, n, c⟩ y.name _ (HV.out.next HX1.out.2)).mono ?_; rintro e w2 ⟨rfl, b2⟩
      have HX2 := Lib.hid (HX1.out.next b2)
      have Y2 := Lib.hid (box_next Y1.out b2)
      clear b2 HX1 Y1 x0 x1 x2 c0 c1 c2
      obtain ⟨y0, y1, y2⟩ := cells3 Y2.out
      go_wp2_with fail
      refine (isName_any y.name _ hl16).mono ?_; rintro e w3 ⟨rfl, rfl⟩
      cases hq : isNameL y.name
      · have hcc := Lib.hid (show errC t.cols k = 20 by rw [hec.out, hq]; rfl)
        have hh := Lib.hid ((hhere.out (by rw [hcc.out]; decide)).trans (by rw [hcc.out]))
        go_wp2_with fail
        go_ret
        exact ⟨by rw [het3.out, hh.out]; rfl, HX2.out.2⟩
      · cases hd : (t.cols.take k).any (hasCol y.name)
        · have dd : decide (max (idxI (hasCol y.name) t.cols) 0 < (k : Int)) = false := by rw [hdup.out, hd]
          go_wp2_with fail
          refine (rightType_any y.k y.m _).mono ?_; rintro e w4 ⟨rfl, b4⟩
          have HX4 := Lib.hid (HX2.out.next b4)
          clear y0 y1 y2
          cases hr : rightT y.k y.m
          · have hcc := Lib.hid (show errC t.cols k = 21 by rw [hec.out, hq, hd, hr]; rfl)
            have hh := Lib.hid ((hhere.out (by rw [hcc.out]; decide)).trans (by rw [hcc.out]))
            go_wp2_with fail
            go_ret
            exact ⟨by rw [het3.out, hh.out]; rfl, HX4.out.2⟩
          · have hst := Lib.hid (hstep.out (by rw [hec.out, hq, hd, hr]; rfl))
            go_wp2_with fail
            go_roundw
            case rel => exact ⟨k + 1, by omega, by go_num, hst, HX4.out⟩
            case measure => simp [intOf]; omega
        · have dd : decide (max (idxI (hasCol y.name) t.cols) 0 < (k : Int)) = true := by rw [hdup.out, hd]
          have hcc := Lib.hid (show errC t.cols k = 20 by rw [hec.out, hq, hd]; rfl)
          have hh := Lib.hid ((hhere.out (by rw [hcc.out]; decide)).trans (by rw [hcc.out]))
          go_wp2_with fail
          go_ret
          exact ⟨by rw [het3.out, hh.out]; rfl, HX2.out.2⟩
    · obtain rfl : k = n := by omega
      go_wp2_with fail
      go_ret
      exact ⟨by rw [het3.out, firstP_none H.out]; rfl, hX.2⟩
theorem light_names {t : Tab} (h : lightT t.name t.cols = true) : t.name.length ≤ 40 ∧ ∀ c ∈ t.cols, c.name.length ≤ 40 := by
  unfold lightT lightC at h
  simp at h
  exact ⟨by omega, fun c hc => by have := h.2.2 c hc; omega⟩
def resE (p : Int × Nat) : Value := .tuple #[.int .i64 p.1, .int .i64 (p.2 : Int)]
theorem resE_rw {p q : Int × Nat} (h : p = q) : Ending.returned (resE q) = Ending.returned (resE p) := by rw [h]
set_option maxHeartbeats 2000000 in
set_option maxRecDepth 100000 in
theorem check_any (A : Option Addr) (n c : Nat) (l : List Tab) (w : World) (h : TRow w A n c l) (hla : ∀ t ∈ l, lightT t.name t.cols = true) :
    Calls Try.prog 43 #[.slice A n c] w fun e w' => e = .returned (resE (checkL l)) ∧ Below w.heap.size w w' := by
  have hl := h.len
  have hcap := h.cap
  have HV := Lib.hid h
  have HL := Lib.hid hl
  have HN := Lib.hid hla
  have hck : Hid (checkL l = if n > 8 then (2, 0) else firstP (errAt l) n) := Lib.hid (by unfold checkL; rw [hl])
  clear h hl hla
  by_cases h1 : n > 8
  · have d1 : decide ((n : Int) > 8) = true := by simp; omega
    have hck2 := Lib.hid (hck.out.trans (if_pos h1))
    go_enter Try.func43, Try.ntmps43
    go_wp2_with fail
    go_ret2
    exact ⟨by rw [hck2.out]; rfl, Below.refl _ _⟩
  have d1 : decide ((n : Int) > 8) = false := by simp; omega
  have hck2 := Lib.hid (hck.out.trans (if_neg h1))
  go_enter Try.func43, Try.ntmps43
  go_wp2_with fail
  go_loopw [4, 5, 6, 7, 8, 14] (fun _ _ _ _ _ i wr => ∃ k : Nat, k ≤ n ∧ i = .int .i64 k ∧ Hid (∀ j, j < k → errAt l j = 0) ∧ Below w.heap.size w wr) (fun _ _ _ _ _ i _ => n - (intOf i).toNat)
  case atStart => exact ⟨0, by omega, rfl, Lib.hid (fun j hj => absurd hj (by omega)), Below.refl _ _⟩
  case round =>
    obtain ⟨k, hk, rfl, H, hb⟩ := hrel
    by_cases hlt : k < n
    · have hlt' : k < l.length := by rw [HL.out]; exact hlt
      obtain ⟨b, off, s, rfl, hbl, hv, ho, hc⟩ := HV.out.at_ hlt'
      obtain ⟨c0, c1, c2⟩ := hc wr hb
      have hbs := hb.size
      have hec := Lib.hid (errAt_at hlt')
      have hdup := Lib.hid (dup_name hlt')
      have hhere := Lib.hid (fun hne => firstP_here (f := errAt l) (n := n) hlt H.out hne)
      have hstep := Lib.hid (fun hz => zero_step (f := errAt l) (k := k) H.out hz)
      obtain ⟨hl40, hc40⟩ := light_names (HN.out l[k] (List.getElem_mem hlt'))
      have HC40 := Lib.hid hc40
      have HVr := Lib.hid hv
      clear hc ho hv hc40
      generalize l[k] = y at *
      go_wp2_with fail
      have B1 : Hid (Below w.heap.size w (wr.alloc (.cells #[.string ⟨y.name.toArray⟩, .int .i64 y.rows, .slice s.A s.n s.c] 61))) := Lib.hid (hb.alloc hbs _)
      have Y1 : Hid ((wr.alloc (.cells #[.string ⟨y.name.toArray⟩, .int .i64 y.rows, .slice s.A s.n s.c] 61)).heap[wr.heap.size]? = some (.cells #[.string ⟨y.name.toArray⟩, .int .i64 y.rows, .slice s.A s.n s.c] 61 (0, 0))) := Lib.hid (alloc_at rfl)
      refine (find_any (some ⟨b, off, none⟩) n c l y.name _ (HV.out.next B1.out)).mono ?_; rintro e w2 ⟨rfl, b2⟩
      have B2 := Lib.hid (bthen B1.out b2)
      have Y2 := Lib.hid (box_next Y1.out b2)
      clear b2 B1 Y1 c0 c1 c2
      obtain ⟨y0, y1, y2⟩ := cells3 Y2.out
      go_wp2_with fail
      refine (isName_any y.name _ (by omega)).mono ?_; rintro e w3 ⟨rfl, rfl⟩
      cases hq : isNameL y.name
      · have hcc := Lib.hid (show errAt l k = 20 by rw [hec.out, hq]; rfl)
        have hh := Lib.hid ((hhere.out (by rw [hcc.out]; decide)).trans (by rw [hcc.out]))
        go_wp2_with fail
        go_ret2
        exact ⟨by rw [hck2.out, hh.out]; rfl, B2.out⟩
      · cases hd : (l.take k).any (hasName y.name)
        · have dd : decide (max (idxI (hasName y.name) l) 0 < (k : Int)) = false := by rw [hdup.out, hd]
          go_wp2_with fail
          refine (table_any y s _ (HVr.out.next B2.out) (fun c hc => by have := HC40.out c hc; omega)).mono ?_; rintro e w4 ⟨rfl, b4⟩
          have B4 := Lib.hid (bthen B2.out b4)
          clear y0 y1 y2
          by_cases hr : errT y = 0
          · have hst := Lib.hid (hstep.out (by rw [hec.out, hq, hd]; simpa using hr))
            rw [hr]
            clear hr
            go_wp2_with fail
            go_roundw
            case rel => exact ⟨k + 1, by omega, by go_num, hst, B4.out⟩
            case measure => simp [intOf]; omega
          · have hcc := Lib.hid (show errAt l k = errT y by rw [hec.out, hq, hd]; rfl)
            have hh := Lib.hid ((hhere.out (by rw [hcc.out]; exact hr)).trans (by rw [hcc.out]))
            obtain ⟨z, hz⟩ : ∃ z, errT y = z := ⟨_, rfl⟩
            rw [hz] at hr hh ⊢
            clear hz hcc
            have d2 : (z != 0) = true := by simpa using hr
            have d3 : (z == 0) = false := by simpa using hr
            go_wp2_with fail
            go_ret2
            exact ⟨by rw [hck2.out, hh.out]; rfl, B4.out⟩
        · have dd : decide (max (idxI (hasName y.name) l) 0 < (k : Int)) = true := by rw [hdup.out, hd]
          have hcc := Lib.hid (show errAt l k = 20 by rw [hec.out, hq, hd]; rfl)
          have hh := Lib.hid ((hhere.out (by rw [hcc.out]; decide)).trans (by rw [hcc.out]))
          go_wp2_with fail
          go_ret2
          exact ⟨by rw [hck2.out, hh.out]; rfl, B2.out⟩
    · obtain rfl : k = n := by omega
      go_wp2_with fail
      go_ret2
      exact ⟨by rw [hck2.out, firstP_none H.out]; rfl, hb⟩
end Go.Proofs.Ytpkoijlbbfffiaa.R
