/- The contracts of the references' IsName, RightType, Find, Check. -/
import Derived.Test.YtpkoijlbbfffiaaSchChk
namespace Go.Proofs.Ytpkoijlbbfffiaa.R
open Go.RowKit O V S

theorem notC {s : List UInt8} (h : s.length = 0 ∨ s.length > 16 ∨ isWordL s = true) : isNameL s = false := by
  unfold isNameL
  rcases h with h | h | h
  · simp [h]
  · simp; omega
  · simp [h]
set_option maxHeartbeats 2000000 in
set_option maxRecDepth 100000 in
theorem risName_any (s : List UInt8) (w : World) (hs : s.length ≤ 1000000000000) : Calls Try.prog 46 #[.string ⟨s.toArray⟩] w fun e w' => e = .returned (.bool (isNameL s)) ∧ Below w.heap.size w w' := by
  have hsz : (ByteArray.mk s.toArray).size = s.length := by simp [ByteArray.size]
  by_cases h0 : s.length = 0
  · have hn := Lib.hid (notC (s := s) (.inl h0))
    have d1 : ((s.length : Int) == 0) = true := beq_iff_eq.2 (by omega)
    have h0' : s = [] := List.eq_nil_of_length_eq_zero h0
    subst h0'
    go_enter Try.func46, Try.ntmps46
    go_wp2_with fail
    go_ret
    exact ⟨by rw [hn.out]; rfl, Below.refl _ _⟩
  by_cases h16 : s.length > 16
  · have hn := Lib.hid (notC (s := s) (.inr (.inl h16)))
    have d1 : ((s.length : Int) == 0) = false := beq_eq_false_iff_ne.2 (by omega)
    have d2 : decide ((s.length : Int) > 16) = true := decide_eq_true (by omega)
    go_enter Try.func46, Try.ntmps46
    go_wp2_with fail
    go_ret
    exact ⟨by rw [hn.out]; rfl, Below.refl _ _⟩
  have d1 : ((s.length : Int) == 0) = false := beq_eq_false_iff_ne.2 (by omega)
  have d2 : decide ((s.length : Int) > 16) = false := decide_eq_false (by omega)
  go_enter Try.func46, Try.ntmps46
  go_wp2_with fail
  refine (risWord_any s _).mono ?_; rintro e w1 ⟨rfl, b1⟩
  cases hq : isWordL s
  · have HQ := Lib.hid hq
    have HB1 := Lib.hid b1
    clear hq b1
    go_wp2_with fail
    go_loopw [3, 4, 5] (fun i _ _ wr => ∃ k : Nat, k ≤ s.length ∧ i = .int .i64 k ∧ Hid (goodL (s.take k) = true) ∧ Below w.heap.size w wr) (fun i _ _ _ => s.length - (intOf i).toNat)
    case atStart => exact ⟨0, by omega, rfl, Lib.hid (by simp [goodL]), HB1.out⟩
    case round =>
      obtain ⟨k, hk, rfl, H, hb⟩ := hrel
      by_cases hlt : k < s.length
      · have hn := Lib.hid (good_step hlt H.out)
        have hno := Lib.hid (isNameL_no (s := s) (k := k + 1))
        generalize hc : s[k] = c at hn
        have hx := ba_at s k hlt hc
        obtain h | h | h | h | h | h | h : (c.toNat : Int) < 48 ∨ (48 ≤ (c.toNat : Int) ∧ (c.toNat : Int) ≤ 57) ∨ (58 ≤ (c.toNat : Int) ∧ (c.toNat : Int) ≤ 94) ∨ (c.toNat : Int) = 95 ∨ (c.toNat : Int) = 96 ∨ (97 ≤ (c.toNat : Int) ∧ (c.toNat : Int) ≤ 122) ∨ 123 ≤ (c.toNat : Int) := by omega
        · have e95 : ((c.toNat : Int) == 95) = false := beq_eq_false_iff_ne.2 (by omega)
          have g97 : decide ((c.toNat : Int) ≥ 97) = false := by simp; omega
          have g122 : decide ((c.toNat : Int) ≤ 122) = true := by simp; omega
          have g48 : decide ((c.toNat : Int) ≥ 48) = false := by simp; omega
          have g57 : decide ((c.toNat : Int) ≤ 57) = true := by simp; omega
          by_cases h0 : k = 0
          · subst h0
            have hno' := Lib.hid (hno.out (by rw [hn.out, if_pos rfl]; simp [restC, smallC, otherC]; omega))
            go_wp2_with fail
            go_ret
            exact ⟨by rw [hno'.out]; rfl, hb⟩
          · have hk0 : ((k : Int) == 0) = false := by simp; omega
            have hno' := Lib.hid (hno.out (by rw [hn.out, if_neg h0]; simp [restC, smallC, otherC]; omega))
            go_wp2_with fail
            go_ret
            exact ⟨by rw [hno'.out]; rfl, hb⟩
        · have e95 : ((c.toNat : Int) == 95) = false := beq_eq_false_iff_ne.2 (by omega)
          have g97 : decide ((c.toNat : Int) ≥ 97) = false := by simp; omega
          have g122 : decide ((c.toNat : Int) ≤ 122) = true := by simp; omega
          have g48 : decide ((c.toNat : Int) ≥ 48) = true := by simp; omega
          have g57 : decide ((c.toNat : Int) ≤ 57) = true := by simp; omega
          by_cases h0 : k = 0
          · subst h0
            have hno' := Lib.hid (hno.out (by rw [hn.out, if_pos rfl]; simp [restC, smallC, otherC]; omega))
            go_wp2_with fail
            go_ret
            exact ⟨by rw [hno'.out]; rfl, hb⟩
          · have hk0 : ((k : Int) == 0) = false := by simp; omega
            have hst := Lib.hid (show goodL (s.take (k + 1)) = true by rw [hn.out, if_neg h0]; simp [restC, smallC, otherC]; omega)
            go_wp2_with fail
            go_roundw
            case rel => exact ⟨k + 1, by omega, by go_num, hst, hb⟩
            case measure => simp [intOf]; omega
        · have e95 : ((c.toNat : Int) == 95) = false := beq_eq_false_iff_ne.2 (by omega)
          have g97 : decide ((c.toNat : Int) ≥ 97) = false := by simp; omega
          have g122 : decide ((c.toNat : Int) ≤ 122) = true := by simp; omega
          have g48 : decide ((c.toNat : Int) ≥ 48) = true := by simp; omega
          have g57 : decide ((c.toNat : Int) ≤ 57) = false := by simp; omega
          by_cases h0 : k = 0
          · subst h0
            have hno' := Lib.hid (hno.out (by rw [hn.out, if_pos rfl]; simp [restC, smallC, otherC]; omega))
            go_wp2_with fail
            go_ret
            exact ⟨by rw [hno'.out]; rfl, hb⟩
          · have hk0 : ((k : Int) == 0) = false := by simp; omega
            have hno' := Lib.hid (hno.out (by rw [hn.out, if_neg h0]; simp [restC, smallC, otherC]; omega))
            go_wp2_with fail
            go_ret
            exact ⟨by rw [hno'.out]; rfl, hb⟩
        · have g1 : 95 ≤ (c.toNat : Int) ∧ (c.toNat : Int) ≤ 95 := by omega
          clear h
          have e95 : ((c.toNat : Int) == 95) = true := beq_iff_eq.2 (by omega)
          have g97 : decide ((c.toNat : Int) ≥ 97) = false := by simp; omega
          have g122 : decide ((c.toNat : Int) ≤ 122) = true := by simp; omega
          have g48 : decide ((c.toNat : Int) ≥ 48) = true := by simp; omega
          have g57 : decide ((c.toNat : Int) ≤ 57) = false := by simp; omega
          by_cases h0 : k = 0
          · subst h0
            have hno' := Lib.hid (hno.out (by rw [hn.out, if_pos rfl]; simp [restC, smallC, otherC]; omega))
            go_wp2_with fail
            go_ret
            exact ⟨by rw [hno'.out]; rfl, hb⟩
          · have hk0 : ((k : Int) == 0) = false := by simp; omega
            have hst := Lib.hid (show goodL (s.take (k + 1)) = true by rw [hn.out, if_neg h0]; simp [restC, smallC, otherC]; omega)
            go_wp2_with fail
            go_roundw
            case rel => exact ⟨k + 1, by omega, by go_num, hst, hb⟩
            case measure => simp [intOf]; omega
        · have g1 : 96 ≤ (c.toNat : Int) ∧ (c.toNat : Int) ≤ 96 := by omega
          clear h
          have e95 : ((c.toNat : Int) == 95) = false := beq_eq_false_iff_ne.2 (by omega)
          have g97 : decide ((c.toNat : Int) ≥ 97) = false := by simp; omega
          have g122 : decide ((c.toNat : Int) ≤ 122) = true := by simp; omega
          have g48 : decide ((c.toNat : Int) ≥ 48) = true := by simp; omega
          have g57 : decide ((c.toNat : Int) ≤ 57) = false := by simp; omega
          by_cases h0 : k = 0
          · subst h0
            have hno' := Lib.hid (hno.out (by rw [hn.out, if_pos rfl]; simp [restC, smallC, otherC]; omega))
            go_wp2_with fail
            go_ret
            exact ⟨by rw [hno'.out]; rfl, hb⟩
          · have hk0 : ((k : Int) == 0) = false := by simp; omega
            have hno' := Lib.hid (hno.out (by rw [hn.out, if_neg h0]; simp [restC, smallC, otherC]; omega))
            go_wp2_with fail
            go_ret
            exact ⟨by rw [hno'.out]; rfl, hb⟩
        · have e95 : ((c.toNat : Int) == 95) = false := beq_eq_false_iff_ne.2 (by omega)
          have g97 : decide ((c.toNat : Int) ≥ 97) = true := by simp; omega
          have g122 : decide ((c.toNat : Int) ≤ 122) = true := by simp; omega
          have g48 : decide ((c.toNat : Int) ≥ 48) = true := by simp; omega
          have g57 : decide ((c.toNat : Int) ≤ 57) = false := by simp; omega
          by_cases h0 : k = 0
          · subst h0
            have hst := Lib.hid (show goodL (s.take (0 + 1)) = true by rw [hn.out, if_pos rfl]; simp [restC, smallC, otherC]; omega)
            go_wp2_with fail
            go_roundw
            case rel => exact ⟨0 + 1, by omega, by go_num, hst, hb⟩
            case measure => simp [intOf]; omega
          · have hk0 : ((k : Int) == 0) = false := by simp; omega
            have hst := Lib.hid (show goodL (s.take (k + 1)) = true by rw [hn.out, if_neg h0]; simp [restC, smallC, otherC]; omega)
            go_wp2_with fail
            go_roundw
            case rel => exact ⟨k + 1, by omega, by go_num, hst, hb⟩
            case measure => simp [intOf]; omega
        · have e95 : ((c.toNat : Int) == 95) = false := beq_eq_false_iff_ne.2 (by omega)
          have g97 : decide ((c.toNat : Int) ≥ 97) = true := by simp; omega
          have g122 : decide ((c.toNat : Int) ≤ 122) = false := by simp; omega
          have g48 : decide ((c.toNat : Int) ≥ 48) = true := by simp; omega
          have g57 : decide ((c.toNat : Int) ≤ 57) = false := by simp; omega
          by_cases h0 : k = 0
          · subst h0
            have hno' := Lib.hid (hno.out (by rw [hn.out, if_pos rfl]; simp [restC, smallC, otherC]; omega))
            go_wp2_with fail
            go_ret
            exact ⟨by rw [hno'.out]; rfl, hb⟩
          · have hk0 : ((k : Int) == 0) = false := by simp; omega
            have hno' := Lib.hid (hno.out (by rw [hn.out, if_neg h0]; simp [restC, smallC, otherC]; omega))
            go_wp2_with fail
            go_ret
            exact ⟨by rw [hno'.out]; rfl, hb⟩
      · obtain rfl : k = s.length := by omega
        go_wp2_with fail
        go_ret
        refine ⟨?_, hb⟩
        rw [name_end H.out, HQ.out, decide_eq_true (by omega), decide_eq_true (by omega)]
        rfl
  · have hn := Lib.hid (notC (s := s) (.inr (.inr hq)))
    go_wp2_with fail
    go_ret
    exact ⟨by rw [hn.out]; rfl, b1⟩
set_option maxHeartbeats 1000000 in
theorem rrightType_any (k m : Int) (w : World) : Calls Try.prog 108 #[tv k m] w fun e w' => e = .returned (.bool (rightT k m)) ∧ Below w.heap.size w w' := by
  simp only [tv]
  by_cases h1 : k = 1
  · subst h1
    by_cases h0 : m = 0
    · subst h0
      go_enter Try.func108, Try.ntmps108
      go_wp2_with fail
      go_ret
      exact ⟨by simp [rightT], (Below.refl _ _).alloc (Nat.le_refl _) _⟩
    · have d : (m == 0) = false := by simpa using h0
      go_enter Try.func108, Try.ntmps108
      go_wp2_with fail
      go_ret
      exact ⟨by simp [rightT, h0], (Below.refl _ _).alloc (Nat.le_refl _) _⟩
  · by_cases h2 : k = 2
    · subst h2
      by_cases h0 : m = 0
      · subst h0
        go_enter Try.func108, Try.ntmps108
        go_wp2_with fail
        go_ret
        exact ⟨by simp [rightT], (Below.refl _ _).alloc (Nat.le_refl _) _⟩
      · have d : (m == 0) = false := by simpa using h0
        go_enter Try.func108, Try.ntmps108
        go_wp2_with fail
        go_ret
        exact ⟨by simp [rightT, h0], (Below.refl _ _).alloc (Nat.le_refl _) _⟩
    · have e1 : (k == 1) = false := by simpa using h1
      have e2 : (k == 2) = false := by simpa using h2
      by_cases h3 : k = 3
      · subst h3
        by_cases h0 : m > 0
        · have d1 : decide (m > 0) = true := by simp; omega
          by_cases h4 : m < 33
          · have d2 : decide (m < 33) = true := by simp; omega
            go_enter Try.func108, Try.ntmps108
            go_wp2_with fail
            go_ret
            exact ⟨by simp [rightT]; omega, (Below.refl _ _).alloc (Nat.le_refl _) _⟩
          · have d2 : decide (m < 33) = false := by simp; omega
            go_enter Try.func108, Try.ntmps108
            go_wp2_with fail
            go_ret
            exact ⟨by simp [rightT]; omega, (Below.refl _ _).alloc (Nat.le_refl _) _⟩
        · have d1 : decide (m > 0) = false := by simp; omega
          go_enter Try.func108, Try.ntmps108
          go_wp2_with fail
          go_ret
          exact ⟨by simp [rightT]; omega, (Below.refl _ _).alloc (Nat.le_refl _) _⟩
      · have e3 : (k == 3) = false := by simpa using h3
        go_enter Try.func108, Try.ntmps108
        go_wp2_with fail
        go_ret
        exact ⟨by simp [rightT, h1, h2, h3], (Below.refl _ _).alloc (Nat.le_refl _) _⟩
set_option maxRecDepth 100000 in
theorem rfind_any (A : Option Addr) (n c : Nat) (l : List Tab) (name : List UInt8) (w : World) (h : TRow w A n c l) :
    Calls Try.prog 47 #[.slice A n c, .string ⟨name.toArray⟩] w fun e w' => e = .returned (.int .i64 (idxI (hasName name) l)) ∧ Below w.heap.size w w' := by
  have hl := h.len
  have hcap := h.cap
  have HV := Lib.hid h
  have HL := Lib.hid hl
  clear h hl
  go_enter Try.func47, Try.ntmps47
  go_wp2_with fail
  go_loopw [5, 6, 9] (fun _ _ i wr => ∃ k : Nat, k ≤ n ∧ i = .int .i64 k ∧ Hid ((l.take k).any (hasName name) = false) ∧ Below w.heap.size w wr) (fun _ _ i _ => n - (intOf i).toNat)
  case atStart => exact ⟨0, by omega, rfl, Lib.hid (by simp), Below.refl _ _⟩
  case round =>
    obtain ⟨k, hk, rfl, H, hb⟩ := hrel
    by_cases hlt : k < n
    · have hlt' : k < l.length := by rw [HL.out]; exact hlt
      obtain ⟨b, off, s, rfl, hbl, hv, ho, hc⟩ := HV.out.at_ hlt'
      obtain ⟨c0, c1, c2⟩ := hc wr hb
      have hno := Lib.hid (fun hp => idxI_here (p := hasName name) hlt' H.out hp)
      have hst := Lib.hid (anyT_step (p := hasName name) hlt' H.out)
      have hbs := hb.size
      clear hc hv ho
      generalize l[k] = x at *
      cases hq : (x.name == name)
      · have hst' := Lib.hid (hst.out.trans hq)
        go_wp2_with fail
        go_roundw
        case rel => exact ⟨k + 1, by omega, by go_num, hst', hb.alloc hbs _⟩
        case measure => simp [intOf]; omega
      · have hno' := Lib.hid (hno.out hq)
        go_wp2_with fail
        go_ret
        exact ⟨by rw [hno'.out]; rfl, hb.alloc hbs _⟩
    · obtain rfl : k = n := by omega
      go_wp2_with fail
      go_ret
      have := H.out
      rw [← HL.out, List.take_length] at this
      exact ⟨by rw [idxI_no this]; rfl, hb⟩
theorem CRow.take {w : World} {A : Option Addr} {n c : Nat} {l : List TCol} (h : CRow w A n c l) (k : Nat) (hk : k ≤ n) : CRow w A k c (l.take k) := by
  have hl := h.len
  obtain ⟨xs, h1, h2, h3, h4⟩ := h
  refine ⟨xs.take (k * 3), ⟨?_, fun hp => ?_⟩, h2.take ColC.size k, by omega, h4⟩
  · have := h1.1; simp; omega
  · simp at hp
    obtain ⟨b, off, e, hb, hc⟩ := h1.2 (by omega)
    refine ⟨b, off, e, hb, fun j hj => ?_⟩
    simp at hj
    rw [hc j (by omega), List.getElem?_take, if_pos (by omega)]
theorem any_more {α : Type} {p : α → Bool} {l : List α} {k : Nat} (h : k < l.length) : (l.take (k + 1)).any p = ((l.take k).any p || p l[k]) := by
  rw [List.take_succ_eq_append_getElem h, List.any_append]
  simp
def CBx (w : World) (y : TCol) (g : Nat) (W : World) : Prop := W.heap[g]? = some (.cells #[.string ⟨y.name.toArray⟩, .int .i64 y.k, .int .i64 y.m] 131 (0, 0)) ∧ Below w.heap.size w W
theorem CBx.next {w W W' : World} {t : TCol} {g : Nat} (h : CBx w t g W) (b : Below W.heap.size W W') : CBx w t g W' := ⟨box_next h.1 b, bthen h.2 b⟩
theorem errT1 {t : Tab} (h : t.rows < 1 ∨ t.rows > 64) : errT t = 22 := by unfold errT; rw [if_pos h]
theorem errT2 {t : Tab} (h : ¬ (t.rows < 1 ∨ t.rows > 64)) (h2 : t.cols.length = 0 ∨ t.cols.length > 8) : errT t = 2 := by unfold errT; rw [if_neg h, if_pos h2]
theorem errT3 {t : Tab} (h : ¬ (t.rows < 1 ∨ t.rows > 64)) (h2 : ¬ (t.cols.length = 0 ∨ t.cols.length > 8)) : errT t = (firstP (errC t.cols) t.cols.length).1 := by unfold errT; rw [if_neg h, if_neg h2]
set_option maxHeartbeats 4000000 in
set_option maxRecDepth 100000 in
theorem rcheck_any (A : Option Addr) (n c : Nat) (l : List Tab) (w : World) (h : TRow w A n c l) (hla : ∀ t ∈ l, lightT t.name t.cols = true) :
    Calls Try.prog 44 #[.slice A n c] w fun e w' => e = .returned (resE (checkL l)) ∧ Below w.heap.size w w' := by
  have hl := h.len
  have hcap := h.cap
  have HV := Lib.hid h
  have HL := Lib.hid hl
  have HN := Lib.hid hla
  have hck : Hid (checkL l = if n > 8 then (2, 0) else firstP (errAt l) n) := Lib.hid (by unfold checkL; rw [hl])
  clear h hl hla
  by_cases h1 : n > 8
  · have d1 : decide ((n : Int) > 8) = true := by simp; omega
    have hck2 := Lib.hid (hck.out.trans (if_pos h1))
    go_enter Try.func44, Try.ntmps44
    go_wp2_with fail
    go_ret2
    exact ⟨by rw [hck2.out]; rfl, Below.refl _ _⟩
  have d1 : decide ((n : Int) > 8) = false := by simp; omega
  have hck2 := Lib.hid (hck.out.trans (if_neg h1))
  go_enter Try.func44, Try.ntmps44
  go_wp2_with fail
  go_loopw [4, 5, 6, 8, 9, 10, 11, 13, 19] (fun _ _ _ _ _ _ _ _ i wr => ∃ k : Nat, k ≤ n ∧ i = .int .i64 k ∧ Hid (∀ j, j < k → errAt l j = 0) ∧ Below w.heap.size w wr) (fun _ _ _ _ _ _ _ _ i _ => n - (intOf i).toNat)
  case atStart => exact ⟨0, by omega, rfl, Lib.hid (fun j hj => absurd hj (by omega)), Below.refl _ _⟩
  case round =>
    obtain ⟨k, hk, rfl, H, hb⟩ := hrel
    by_cases hlt : k < n
    · have hlt' : k < l.length := by rw [HL.out]; exact hlt
      obtain ⟨b, off, s, rfl, hbl, hv, ho, hc⟩ := HV.out.at_ hlt'
      obtain ⟨c0, c1, c2⟩ := hc wr hb
      have hbs := hb.size
      have hec := Lib.hid (errAt_at hlt')
      have hhere := Lib.hid (fun hne => firstP_here (f := errAt l) (n := n) hlt H.out hne)
      have hstep := Lib.hid (fun hz => zero_step (f := errAt l) (k := k) H.out hz)
      obtain ⟨hl40, hc40⟩ := light_names (HN.out l[k] (List.getElem_mem hlt'))
      have HC40 := Lib.hid hc40
      have HVr := Lib.hid hv
      have hvl := hv.len
      have hvc := hv.cap
      have HVt := Lib.hid (HV.out.take k (by omega))
      have HVtl := Lib.hid HVt.out.len
      clear hc ho hv hc40
      generalize l[k] = y at *
      have hkc : k ≤ c := by omega
      go_wp2_with fail
      have X1 : Hid (TBx w y s wr.heap.size (wr.alloc (.cells #[.string ⟨y.name.toArray⟩, .int .i64 y.rows, .slice s.A s.n s.c] 61))) := Lib.hid ⟨alloc_at rfl, hb.alloc hbs _⟩
      obtain ⟨w1, hw1⟩ : ∃ w1, (wr.alloc (.cells #[.string ⟨y.name.toArray⟩, .int .i64 y.rows, .slice s.A s.n s.c] 61)) = w1 := ⟨_, rfl⟩
      rw [hw1] at X1 ⊢
      clear hw1
      obtain ⟨g, hg⟩ : ∃ g, wr.heap.size = g := ⟨_, rfl⟩
      rw [hg] at X1 ⊢
      clear hg c0 c1 c2 hb hbs
      obtain ⟨A2, n2, cc2⟩ := s
      dsimp only at hvl hvc
      have HVr : Hid (CRow w A2 n2 cc2 y.cols) := HVr
      have HVL := Lib.hid hvl
      clear hvl
      go_loopw [6, 8, 28] (fun tw _ i wx => ∃ j : Nat, j ≤ k ∧ i = .int .i64 j ∧ tw = .bool (((l.take k).take j).any (hasName y.name)) ∧ TBx w y ⟨A2, n2, cc2⟩ g wx) (fun _ _ i _ => k - (intOf i).toNat)
      case atStart => exact ⟨0, by omega, rfl, rfl, X1.out⟩
      case round =>
        obtain ⟨j, hj, rfl, rfl, hX⟩ := hrel
        clear X1
        have hgl : g < wr.heap.size := (Array.getElem?_eq_some_iff.1 hX.1).1
        obtain ⟨x0, x1, x2⟩ := cells3 hX.1
        have HX := Lib.hid hX; clear hX
        by_cases hlj : j < k
        · have hlj' : j < (l.take k).length := by rw [HVtl.out]; exact hlj
          obtain ⟨b', off', s', hA, _, _, _, hc⟩ := HVt.out.at_ hlj'
          injection hA with hA
          injection hA with hA1 hA2
          subst hA1 hA2
          obtain ⟨c0, c1, c2⟩ := hc wr HX.out.2
          have hst := Lib.hid (any_more (p := hasName y.name) hlj')
          have hjn : (j : Int) < (k : Int) := by omega
          clear hc
          generalize (l.take k)[j] = u at *
          have HX1 := Lib.hid (HX.out.next ((Below.refl _ _).alloc (Nat.le_refl _) (.cells #[.string ⟨u.name.toArray⟩, .int .i64 u.rows, .slice s'.A s'.n s'.c] 61)))
          cases hq : ((l.take k).take j).any (hasName y.name)
          · cases hq2 : (u.name == y.name)
            · go_wp2_with fail
              go_roundw
              case rel => exact ⟨j + 1, by omega, by go_num, by rw [hst.out, hq]; unfold hasName; rw [hq2]; rfl, HX1.out⟩
              case measure => simp [intOf]; omega
            · go_wp2_with fail
              go_roundw
              case rel => exact ⟨j + 1, by omega, by go_num, by rw [hst.out, hq]; unfold hasName; rw [hq2]; rfl, HX1.out⟩
              case measure => simp [intOf]; omega
          · go_wp2_with fail
            go_roundw
            case rel => exact ⟨j + 1, by omega, by go_num, by rw [hst.out, hq]; rfl, HX1.out⟩
            case measure => simp [intOf]; omega
        · obtain rfl : j = k := by omega
          rw [show (l.take j).take j = l.take j by rw [List.take_take, Nat.min_self]]
          go_wp2_with fail
          refine (risName_any y.name _ (by omega)).mono ?_; rintro e w3 ⟨rfl, b3⟩
          have HX3 := Lib.hid (HX.out.next b3)
          clear b3 x0 x1 x2
          cases hq : isNameL y.name
          · have hcc := Lib.hid (show errAt l j = 20 by rw [hec.out, hq]; rfl)
            have hh := Lib.hid ((hhere.out (by rw [hcc.out]; decide)).trans (by rw [hcc.out]))
            go_wp2_with fail
            go_ret2
            exact ⟨by rw [hck2.out, hh.out]; rfl, HX3.out.2⟩
          cases hd : (l.take j).any (hasName y.name)
          rotate_left
          · have hcc := Lib.hid (show errAt l j = 20 by rw [hec.out, hq, hd]; rfl)
            have hh := Lib.hid ((hhere.out (by rw [hcc.out]; decide)).trans (by rw [hcc.out]))
            go_wp2_with fail
            go_ret2
            exact ⟨by rw [hck2.out, hh.out]; rfl, HX3.out.2⟩
          have hec2 := Lib.hid (show errAt l j = errT y by rw [hec.out, hq, hd]; rfl)
          clear hec hq hd
          obtain ⟨x0, x1, x2⟩ := cells3 HX3.out.1
          by_cases r1 : y.rows < 1
          · have e1 : decide (y.rows < 1) = true := by simp; omega
            have hcc := Lib.hid (show errAt l j = 22 by rw [hec2.out, errT1 (.inl r1)])
            have hh := Lib.hid ((hhere.out (by rw [hcc.out]; decide)).trans (by rw [hcc.out]))
            go_wp2_with fail
            go_ret2
            exact ⟨by rw [hck2.out, hh.out]; rfl, HX3.out.2⟩
          have e1 : decide (y.rows < 1) = false := by simp; omega
          by_cases r2 : y.rows > 64
          · have e2 : decide (y.rows > 64) = true := by simp; omega
            have hcc := Lib.hid (show errAt l j = 22 by rw [hec2.out, errT1 (.inr r2)])
            have hh := Lib.hid ((hhere.out (by rw [hcc.out]; decide)).trans (by rw [hcc.out]))
            go_wp2_with fail
            go_ret2
            exact ⟨by rw [hck2.out, hh.out]; rfl, HX3.out.2⟩
          have e2 : decide (y.rows > 64) = false := by simp; omega
          have r3 : ¬ (y.rows < 1 ∨ y.rows > 64) := by omega
          by_cases r4 : n2 < 1
          · have e3 : decide ((n2 : Int) < 1) = true := by simp; omega
            have hcc := Lib.hid (show errAt l j = 2 by rw [hec2.out, errT2 r3 (.inl (by rw [HVL.out]; omega))])
            have hh := Lib.hid ((hhere.out (by rw [hcc.out]; decide)).trans (by rw [hcc.out]))
            go_wp2_with fail
            go_ret2
            exact ⟨by rw [hck2.out, hh.out]; rfl, HX3.out.2⟩
          have e3 : decide ((n2 : Int) < 1) = false := by simp; omega
          by_cases r5 : n2 > 8
          · have e4 : decide ((n2 : Int) > 8) = true := by simp; omega
            have hcc := Lib.hid (show errAt l j = 2 by rw [hec2.out, errT2 r3 (.inr (by rw [HVL.out]; omega))])
            have hh := Lib.hid ((hhere.out (by rw [hcc.out]; decide)).trans (by rw [hcc.out]))
            go_wp2_with fail
            go_ret2
            exact ⟨by rw [hck2.out, hh.out]; rfl, HX3.out.2⟩
          have e4 : decide ((n2 : Int) > 8) = false := by simp; omega
          have hec3 := Lib.hid (show errAt l j = (firstP (errC y.cols) n2).1 by rw [hec2.out, errT3 r3 (by rw [HVL.out]; omega), HVL.out])
          clear hec2 r3
          go_wp2_with fail
          clear x0 x1 x2
          go_loopw [9, 10, 11, 13, 72] (fun _ _ _ _ i wx => ∃ m : Nat, m ≤ n2 ∧ i = .int .i64 m ∧ Hid (∀ j, j < m → errC y.cols j = 0) ∧ TBx w y ⟨A2, n2, cc2⟩ g wx) (fun _ _ _ _ i _ => n2 - (intOf i).toNat)
          case atStart => exact ⟨0, by omega, rfl, Lib.hid (fun j hj => absurd hj (by omega)), HX3.out⟩
          case round =>
            obtain ⟨m, hm, rfl, HM, hX⟩ := hrel
            clear HX3 HX
            have hgl2 : g < wr.heap.size := (Array.getElem?_eq_some_iff.1 hX.1).1
            obtain ⟨x0, x1, x2⟩ := cells3 hX.1
            have HX := Lib.hid hX; clear hX
            by_cases hlm : m < n2
            · have hlm' : m < y.cols.length := by rw [HVL.out]; exact hlm
              obtain ⟨b2, off2, hA, hbl2, ho2, hc2⟩ := HVr.out.at_ hlm'
              subst hA
              obtain ⟨z0, z1, z2⟩ := hc2 wr HX.out.2
              have hecc := Lib.hid (errC_at hlm')
              have hhc := Lib.hid (fun hne => firstP_here (f := errC y.cols) (n := n2) hlm HM.out hne)
              have hsc := Lib.hid (fun hz => zero_step (f := errC y.cols) (k := m) HM.out hz)
              have hz40 := HC40.out y.cols[m] (List.getElem_mem hlm')
              have HCt := Lib.hid (HVr.out.take m (by omega))
              have HCtl := Lib.hid HCt.out.len
              have hmc : m ≤ cc2 := by omega
              clear hc2 ho2
              generalize y.cols[m] = z at *
              go_wp2_with fail
              have Z1 : Hid (CBx w z wr.heap.size (wr.alloc (.cells #[.string ⟨z.name.toArray⟩, .int .i64 z.k, .int .i64 z.m] 131))) := Lib.hid ⟨alloc_at rfl, HX.out.2.alloc HX.out.2.size _⟩
              have HX1 : Hid (TBx w y ⟨some ⟨b2, off2, none⟩, n2, cc2⟩ g (wr.alloc (.cells #[.string ⟨z.name.toArray⟩, .int .i64 z.k, .int .i64 z.m] 131))) := Lib.hid (HX.out.next ((Below.refl _ _).alloc (Nat.le_refl _) _))
              obtain ⟨w5, hw5⟩ : ∃ w5, (wr.alloc (.cells #[.string ⟨z.name.toArray⟩, .int .i64 z.k, .int .i64 z.m] 131)) = w5 := ⟨_, rfl⟩
              rw [hw5] at Z1 HX1 ⊢
              clear hw5
              obtain ⟨g2, hg2⟩ : ∃ g2, wr.heap.size = g2 := ⟨_, rfl⟩
              rw [hg2] at Z1 ⊢
              clear hg2 z0 z1 z2 x0 x1 x2 hgl2 HX
              go_loopw [11, 13, 82] (fun tw _ i wx => ∃ q : Nat, q ≤ m ∧ i = .int .i64 q ∧ tw = .bool (((y.cols.take m).take q).any (hasCol z.name)) ∧ CBx w z g2 wx ∧ TBx w y ⟨some ⟨b2, off2, none⟩, n2, cc2⟩ g wx) (fun _ _ i _ => m - (intOf i).toNat)
              case atStart => exact ⟨0, by omega, rfl, rfl, Z1.out, HX1.out⟩
              case round =>
                obtain ⟨q, hq1, rfl, rfl, hZ, hX⟩ := hrel
                clear Z1 HX1
                have hgl3 : g2 < wr.heap.size := (Array.getElem?_eq_some_iff.1 hZ.1).1
                obtain ⟨x0, x1, x2⟩ := cells3 hZ.1
                have HZ := Lib.hid hZ; clear hZ
                have HX := Lib.hid hX; clear hX
                by_cases hlq : q < m
                · have hlq' : q < (y.cols.take m).length := by rw [HCtl.out]; exact hlq
                  obtain ⟨b', off', hA, _, _, hc⟩ := HCt.out.at_ hlq'
                  injection hA with hA
                  injection hA with hA1 hA2
                  subst hA1 hA2
                  obtain ⟨c0, c1, c2⟩ := hc wr HX.out.2
                  have hst := Lib.hid (any_more (p := hasCol z.name) hlq')
                  have hjn : (q : Int) < (m : Int) := by omega
                  clear hc
                  generalize (y.cols.take m)[q] = u at *
                  have HX1 := Lib.hid (HX.out.next ((Below.refl _ _).alloc (Nat.le_refl _) (.cells #[.string ⟨u.name.toArray⟩, .int .i64 u.k, .int .i64 u.m] 131)))
                  have HZ1 := Lib.hid (HZ.out.next ((Below.refl _ _).alloc (Nat.le_refl _) (.cells #[.string ⟨u.name.toArray⟩, .int .i64 u.k, .int .i64 u.m] 131)))
                  cases hq : ((y.cols.take m).take q).any (hasCol z.name)
                  · cases hq2 : (u.name == z.name)
                    all_goals
                      go_wp2_with fail
                      go_roundw
                      case rel => exact ⟨q + 1, by omega, by go_num, by rw [hst.out, hq]; unfold hasCol; rw [hq2]; rfl, HZ1.out, HX1.out⟩
                      case measure => simp [intOf]; omega
                  · go_wp2_with fail
                    go_roundw
                    case rel => exact ⟨q + 1, by omega, by go_num, by rw [hst.out, hq]; rfl, HZ1.out, HX1.out⟩
                    case measure => simp [intOf]; omega
                · obtain rfl : q = m := by omega
                  rw [show (y.cols.take q).take q = y.cols.take q by rw [List.take_take, Nat.min_self]]
                  go_wp2_with fail
                  refine (risName_any z.name _ (by omega)).mono ?_; rintro e w6 ⟨rfl, b6⟩
                  have HX6 := Lib.hid (HX.out.next b6)
                  have HZ6 := Lib.hid (HZ.out.next b6)
                  clear b6 x0 x1 x2
                  cases hq : isNameL z.name
                  · have hcc := Lib.hid (show errC y.cols q = 20 by rw [hecc.out, hq]; rfl)
                    have hcd := Lib.hid ((hhc.out (by rw [hcc.out]; decide)).trans (by rw [hcc.out]))
                    have hce := Lib.hid (hec3.out.trans (congrArg Prod.fst hcd.out))
                    have hh := Lib.hid ((hhere.out (by rw [hce.out]; simp)).trans (by rw [hce.out]))
                    go_wp2_with fail
                    go_ret2
                    exact ⟨by rw [hck2.out, hh.out]; rfl, HX6.out.2⟩
                  cases hd : (y.cols.take q).any (hasCol z.name)
                  rotate_left
                  · have hcc := Lib.hid (show errC y.cols q = 20 by rw [hecc.out, hq, hd]; rfl)
                    have hcd := Lib.hid ((hhc.out (by rw [hcc.out]; decide)).trans (by rw [hcc.out]))
                    have hce := Lib.hid (hec3.out.trans (congrArg Prod.fst hcd.out))
                    have hh := Lib.hid ((hhere.out (by rw [hce.out]; simp)).trans (by rw [hce.out]))
                    go_wp2_with fail
                    go_ret2
                    exact ⟨by rw [hck2.out, hh.out]; rfl, HX6.out.2⟩
                  obtain ⟨x0, x1, x2⟩ := cells3 HZ6.out.1
                  go_wp2_with fail
                  refine (rrightType_any z.k z.m _).mono ?_; rintro e w7 ⟨rfl, b7⟩
                  have HX7 := Lib.hid (HX6.out.next b7)
                  clear b7 x0 x1 x2
                  cases hr : rightT z.k z.m
                  · have hcc := Lib.hid (show errC y.cols q = 21 by rw [hecc.out, hq, hd, hr]; rfl)
                    have hcd := Lib.hid ((hhc.out (by rw [hcc.out]; decide)).trans (by rw [hcc.out]))
                    have hce := Lib.hid (hec3.out.trans (congrArg Prod.fst hcd.out))
                    have hh := Lib.hid ((hhere.out (by rw [hce.out]; simp)).trans (by rw [hce.out]))
                    go_wp2_with fail
                    go_ret2
                    exact ⟨by rw [hck2.out, hh.out]; rfl, HX7.out.2⟩
                  · have hst := Lib.hid (hsc.out (by rw [hecc.out, hq, hd, hr]; rfl))
                    go_wp2_with fail
                    go_roundw
                    case rel => exact ⟨q + 1, by omega, by go_num, hst, HX7.out⟩
                    case measure => simp [intOf]; omega
            · obtain rfl : m = n2 := by omega
              have hst := Lib.hid (hstep.out (by rw [hec3.out, firstP_none HM.out]))
              go_wp2_with fail
              go_roundw
              case rel => exact ⟨j + 1, by omega, by go_num, hst, HX.out.2⟩
              case measure => simp [intOf]; omega
    · obtain rfl : k = n := by omega
      go_wp2_with fail
      go_ret2
      exact ⟨by rw [hck2.out, firstP_none H.out]; rfl, hb⟩
end Go.Proofs.Ytpkoijlbbfffiaa.R
