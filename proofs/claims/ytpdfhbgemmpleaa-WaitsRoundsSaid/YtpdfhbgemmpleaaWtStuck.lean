/- The contract of waits' Stuck. -/
import Derived.Test.YtpdfhbgemmpleaaWtRound
namespace Go.Proofs.Ytpdfhbgemmpleaa.T
open Go.RowKit

/-- What the map of who waits for whom reads as, its rows at w0. -/
structure ED (w0 : World) (D : DataW Value) (L : Gr) : Prop where
  has : ∀ x, Maps.has D (.int .i64 x) = true ↔ ∃ p ∈ L, p.1 = x
  val : ∀ x, ∃ A n c, D.atKey (.int .i64 x) (.held (.slice none 0 0)) = .held (.slice A n c) ∧ NRow w0 A n c (forE L x)
def ERng (w0 w : World) (b r : Nat) (L : Gr) (done : List Int) (cnt : Nat) : Prop := ∃ (D : DataW Value) (left : Lit → Bool), w.ranges Try.prog 3 eR b r L.length D left cnt ∧ ED w0 D L ∧ done.Nodup ∧
  (∀ x ∈ done, (∃ p ∈ L, p.1 = x) ∧ left (.int .i64 x) = false) ∧ ∀ x, (∃ p ∈ L, p.1 = x) → x ∉ done → left (.int .i64 x) = true
theorem ERng.left_eq {w0 w : World} {b r : Nat} {L : Gr} {done : List Int} {cnt : Nat} (h : ERng w0 w b r L done cnt) : w.rangeLeft b r = cnt := by obtain ⟨D, left, h1, _⟩ := h; exact h1.left_eq
theorem ERng.lt {w0 w : World} {b r : Nat} {L : Gr} {done : List Int} {cnt : Nat} (h : ERng w0 w b r L done cnt) : r < w.heap.size := by obtain ⟨D, left, h1, _⟩ := h; exact h1.lt
theorem ERng.grown {w0 w W : World} {b r : Nat} {L : Gr} {done : List Int} {cnt : Nat} {row : Option Nat} (h : ERng w0 w b r L done cnt) (k : w.grownBy W row) (hb : some b ≠ row) (hr : some r ≠ row) : ERng w0 W b r L done cnt := by
  obtain ⟨D, left, h1, h2⟩ := h
  exact ⟨D, left, h1.kept k hb hr, h2⟩
theorem ERng.next {w0 w W : World} {b r : Nat} {L : Gr} {done : List Int} {cnt : Nat} (h : ERng w0 w b r L done cnt) (k : Below w.heap.size w W) : ERng w0 W b r L done cnt := h.grown (row := none) (grown_of_below k none) (by simp) (by simp)
theorem ERng.len {w0 w : World} {b r : Nat} {L : Gr} {done : List Int} {cnt : Nat} (h : ERng w0 w b r L done cnt) : done.length ≤ L.length := by
  obtain ⟨D, left, _, _, h3, h4, _⟩ := h
  have := nodup_len (U := L.map (·.1)) h3 (fun x hx => by obtain ⟨⟨p, hp, e⟩, _⟩ := h4 x hx; exact List.mem_map.2 ⟨p, hp, e⟩)
  simpa using this
section
variable {ops : Array Oper} {rest : List Oper} {o : Oper} {a : Act} {Q : Exit → Act → World → Prop}
theorem wpList_range_e {w : World} (hg : o.guard = none) (m : Operand) (hop : o.op = Op.range 45 m) {b : Nat} {L : Gr} (hm : a.eval m = .map (some b)) (h : EMap w b L)
    (hK : ∀ w' cnt, ERng w w' b w.heap.size L [] cnt → w.grownBy w' none → w'.heap.size = w.heap.size + 1 → wpList Try.prog ops Q rest (a.put o.dst (.pointer (some ⟨w.heap.size, 0, none⟩))) w') : wpList Try.prog ops Q (o :: rest) a w := by
  obtain ⟨D, h1, h2, h3⟩ := h
  refine wpList_range_own w hg m _ hop _ _ keyI Try.underlying45 _ b _ D hm h1 fun w' hr hgr hs => ?_
  exact hK w' _ ⟨D, _, hr, ⟨h2, h3⟩, List.nodup_nil, by simp, fun x hx _ => (h2 x).2 hx⟩ hgr hs
theorem wpList_next_e {w0 w : World} (hg : o.guard = none) (it : Operand) (hop : o.op = Op.next it false) {b r : Nat} {L : Gr} {done : List Int} {cnt : Nat} (hit : a.eval it = .pointer (some ⟨r, 0, none⟩)) (h : ERng w0 w b r L done cnt)
    (hDone : (∀ x, (∃ p ∈ L, p.1 = x) → x ∈ done) → wpList Try.prog ops Q rest (a.put o.dst (.tuple #[.bool false])) w)
    (hMore : ∀ (x : Int) (A : Option Addr) (n c : Nat) (w' : World) (cnt' : Nat), x ∉ done → wf x → NRow w0 A n c (forE L x) → ERng w0 w' b r L (done ++ [x]) cnt' → cnt' < cnt → w.grownBy w' (some r) → w'.heap.size = w.heap.size →
      (Instr.entry (.pointer (some ⟨r, 0, none⟩))).run Try.prog w' = .ok (.tuple #[.int .i64 x, .slice A n c]) w' → wpList Try.prog ops Q rest (a.put o.dst (.tuple #[.bool true, .int .i64 x, .slice A n c])) w') : wpList Try.prog ops Q (o :: rest) a w := by
  obtain ⟨D, left, h1, h2, h3, h4, h5⟩ := h
  refine wpList_next_ranges (α := Int) (β := Option Addr × Nat × Nat) w hg it hop _ keyI eR (Value.int .i64) (fun c => .slice c.1 c.2.1 c.2.2) (fun key kl hk => ?_) (fun v y hv => ?_) b r _ D left cnt hit h1 (fun _ hl => hDone fun x hx => ?_) (fun x c kl y w' cnt' hkey hlx hv hat hr hlt hgr hs hen => ?_)
  · obtain ⟨x, rfl, _⟩ := Maps.keyOf_int_inv Try.underlying3 hk; exact ⟨x, rfl⟩
  · obtain ⟨A, n, c, rfl, _⟩ := eR_inv hv; exact ⟨(A, n, c), rfl⟩
  · by_cases hd : x ∈ done
    · exact hd
    · have := h5 x hx hd
      rw [hl] at this
      cases this
  · obtain ⟨x', ex, rfl, hwx⟩ := Maps.keyOf_int_inv Try.underlying3 hkey
    injection ex with _ ex
    subst ex
    obtain ⟨A, n, c⟩ := c
    obtain ⟨A', n', c', e1, e2⟩ := eR_inv hv
    injection e1 with e1 e1' e1''
    subst e1 e1' e1''
    have hxS : ∃ p ∈ L, p.1 = x := (h2.has x).1 (Maps.has_true_of_atKey hat)
    have hxd : x ∉ done := fun hd => by rw [(h4 x hd).2] at hlx; cases hlx
    obtain ⟨A2, n2, c2, e3, hr2⟩ := h2.val x
    rw [hat, e2] at e3
    injection e3 with e3
    injection e3 with e3 e3' e3''
    subst e3 e3' e3''
    refine hMore x _ _ _ w' cnt' hxd (.of hwx) hr2 ⟨D, _, hr, h2, ?_, fun y hy => ?_, fun y hy hyd => ?_⟩ hlt hgr hs hen
    · rw [List.nodup_append]
      exact ⟨h3, by simp, fun u hu v hv e => by simp at hv; subst hv; exact hxd (e ▸ hu)⟩
    · rcases List.mem_append.1 hy with hy | hy
      · exact ⟨(h4 y hy).1, by simp [(h4 y hy).2]⟩
      · rw [List.mem_singleton] at hy
        subst hy
        exact ⟨hxS, by rw [WideAt.sameKey_self (isKey y)]; simp⟩
    · simp only [List.mem_append, List.mem_singleton, not_or] at hyd
      rw [h5 y hy hyd.1, Maps.sameKey_ne (lit_ne hyd.2)]; rfl
end
/-- Who is stuck. -/
def stuckP (L : Gr) (x : Int) : Prop := forE L x ≠ [] ∧ ∀ y, ¬ runsP L x y
noncomputable def stuckB (L : Gr) (x : Int) : Bool := @decide (stuckP L x) (Classical.propDecidable _)
theorem stuckB_iff {L : Gr} {x : Int} : stuckB L x = true ↔ stuckP L x := by unfold stuckB; exact @decide_eq_true_iff _ (Classical.propDecidable _)
theorem stuck_no {L : Gr} {x : Int} (h : ¬ stuckP L x) : stuckB L x = false := by
  cases e : stuckB L x
  · rfl
  · exact absurd (stuckB_iff.1 e) h
set_option maxHeartbeats 4000000 in
set_option maxRecDepth 100000 in
theorem stuck_any (A : Option Addr) (n c : Nat) (L : Gr) (w : World) (h : GRow w A n c L) (ok : GOk L) :
    Calls Try.prog 15 #[.slice A n c] w (RetN (stuckP L) w) := by
  have HG := Lib.hid h
  have OK := Lib.hid ok
  clear h ok
  go_enter Try.func15, Try.ntmps15
  go_wp2_with fail
  refine (wrow_any A n c L _ HG.out OK.out).mono ?_; rintro e w2 ⟨b, rfl, m2, b2⟩
  have HM := Lib.hid m2
  have hlt := m2.lt
  have HB2 := Lib.hid b2
  have hww := b2.size
  clear m2 b2
  go_wp2_with (first
    | (at_range; refine wpList_range_e rfl _ rfl rfl HM.out ?_; intro w3 cnt0 hr0 hg0 hs0)
    | go_in)
  go_frame
  have HR0 := Lib.hid hr0
  have HB0 : Hid (Below w2.heap.size w2 w3) := Lib.hid ⟨hg0.os, hg0.tape, hg0.output, hg0.size, fun i hi => hg0.block i hi (by simp)⟩
  clear hr0 hg0 hs0
  go_loopw [2] (fun ov wr => ∃ (A : Option Addr) (n c : Nat) (done : List Int) (cnt : Nat), ov = .slice A n c ∧ Hid (wr.ownsRow (w2.heap.size + 1) 3 1 (.slice A n c) n (iv (done.filter (stuckB L)))) ∧ Hid (ERng w2 wr b w2.heap.size L done cnt) ∧ Hid (Below w2.heap.size w2 wr)) (fun _ wr => wr.rangeLeft b w2.heap.size)
  case atStart => exact ⟨none, 0, 0, [], cnt0, rfl, Lib.hid (World.ownsRow_nil _ _ _ _), HR0, HB0⟩
  case round =>
    obtain ⟨A4, n4, c4, done, cnt, rfl, HO, HR, HB⟩ := hrel
    clear HR0 HB0
    have hnl : (done.filter (stuckB L)).length = n4 := by have := HO.out.1; simpa using this
    have hdl : done.length ≤ 40 := Nat.le_trans HR.out.len OK.out.n
    have hn5 : n4 ≤ 40 := by have := List.length_filter_le (stuckB L) done; omega
    go_wp2_with (first
      | (at_next; refine wpList_next_e rfl _ rfl rfl HR.out ?_ ?_)
      | go_in)
    · intro hall
      have hrow : IsRow (stuckP L) (srt (done.filter (stuckB L))) := by
        obtain ⟨D, left, _, h2, h3, h4, _⟩ := HR.out
        refine (sorted_row (h3.filter _)).imp (fun x => ?_)
        simp only [List.mem_filter, stuckB_iff]
        refine ⟨fun ⟨_, h6⟩ => h6, fun h6 => ?_⟩
        rcases forE_in L x with e | e
        · exact absurd e h6.1
        · exact ⟨by first | exact hall x _ e | exact hall x ⟨_, e, rfl⟩, h6⟩
      have HROW := Lib.hid hrow
      clear hall hrow
      go_wp2_with fail
      refine (sort_any A4 n4 c4 _ _ _ HO.out (by omega)).mono ?_; rintro e w5 ⟨rfl, o5, g5⟩
      have hob : ∀ g, (Value.slice A4 n4 c4).ownBlock = some g → w2.heap.size + 1 ≤ g := fun g hg => (HO.out.lt _ hg).1
      have HB5 : Hid (Below w2.heap.size w2 w5) := Lib.hid (HB.out.trans ⟨g5.os, g5.tape, g5.output, g5.size, fun i hi => g5.block i (Nat.lt_of_lt_of_le hi HB.out.size) (fun e => by have := hob _ e.symm; omega)⟩)
      have HO5 := Lib.hid o5
      clear o5 g5
      go_wp2_with fail
      go_ret
      exact ⟨A4, n4, c4, _, rfl, own_moreT HO5.out (by omega), HROW.out, bthen HB2.out HB5.out⟩
    · intro x A1 n1 c1 w1 cnt1 hxd hwx hr1 hrr1 hlt1 hg1 hs1 hen
      have HB1 := Lib.hid (below_gb HB.out hg1 (Nat.le_refl _))
      have HO1 := Lib.hid (HO.out.kept hg1 (by
        cases hv : (Value.slice A4 n4 c4).ownBlock with
        | none => exact .inl rfl
        | some g => exact .inr (fun e => by injection e with e; have := (HO.out.lt _ hv).1; omega)))
      have HR1 := Lib.hid hrr1
      have hle := HR.out.left_eq
      have hl1 := hr1.len
      have HGX := Lib.hid ((HG.out.next HB2.out).next HB1.out)
      have HRN := Lib.hid (runs_any A n c L x w1 HGX.out OK.out hwx)
      clear hrr1 hg1 hs1 hxd HO HR HB hr1
      by_cases hf : forE L x = []
      · have hst := stuck_no (fun h : stuckP L x => h.1 hf)
        have hn1 : n1 = 0 := by rw [← hl1, hf]; rfl
        subst hn1
        clear hl1 hf
        go_wp2_with fail
        go_roundw
        case rel => exact ⟨A4, n4, c4, done ++ [x], cnt1, rfl, Lib.hid (by rw [filter_snoc, hst, if_neg (by decide)]; exact HO1.out), HR1, HB1⟩
        case measure => rw [HR1.out.left_eq, hle]; exact hlt1
      · have hn1 : 0 < n1 := by rw [← hl1]; exact List.length_pos_iff.2 hf
        have hd1 : decide ((n1 : Int) > 0) = true := by simp; omega
        have HF := Lib.hid hf
        clear hl1 hf
        go_wp2_with fail
        refine HRN.out.mono ?_; rintro e w6 ⟨A6, n6, c6, l6, rfl, o6, r6, b6⟩
        have hl6 : l6.length = n6 := by have := o6.1; simpa using this
        have hll6 := runs_len OK.out r6
        have hq : ((n6 : Int) == 0) = stuckB L x := by
          rw [← hl6]
          cases hl : l6 with
          | nil =>
            symm
            rw [show (((([] : List Int).length : Nat) : Int) == 0) = true from rfl]
            exact stuckB_iff.2 ⟨HF.out, fun y hy => by have := (r6.mem y).2 hy; rw [hl] at this; simp at this⟩
          | cons y l =>
            rw [stuck_no (fun h : stuckP L x => h.2 y ((r6.mem y).1 (by rw [hl]; simp)))]
            simp; omega
        have HQ := Lib.hid hq
        have HB6 := Lib.hid (bthen HB1.out b6)
        have HO6 := Lib.hid (own_below HO1.out b6)
        have HR6 := Lib.hid (HR1.out.next b6)
        clear b6 o6 r6 hq hl6 HB1 HO1 HR1 HRN
        cases hsb : stuckB L x with
        | false =>
          have e0 := HQ.out
          rw [hsb] at e0
          go_wp2_with fail
          go_roundw
          case rel => exact ⟨A4, n4, c4, done ++ [x], cnt1, rfl, Lib.hid (by rw [filter_snoc, hsb, if_neg (by decide)]; exact HO6.out), HR6, HB6⟩
          case measure => rw [HR6.out.left_eq, hle]; exact hlt1
        | true =>
          have e0 := HQ.out
          rw [hsb] at e0
          go_wp2_with (at_builtin; refine wpList_app rfl (.tmp 23) (.tmp 25) intE rfl (w2.heap.size + 1) (iv (done.filter (stuckB L))) rfl (HO6.out.alloc _) rfl [.int .i64 x] (Rd.made _ [.int .i64 x] rfl (by simp)) (by simp [Value.oneCell']) (by unfold maxLen; omega) (by omega) (by have := HR6.out.lt; simp; omega) ?_; intro A7 c7 w7 o7 g7 _; rw [show ([Value.int .i64 x] : List Value) = iv [x] from rfl, ← iv_append] at o7; have HO7 := Lib.hid o7; have HG7 := Lib.hid g7; clear o7 g7)
          have hob : ∀ g, (Value.slice A4 n4 c4).ownBlock = some g → w2.heap.size + 1 ≤ g := fun g hg => (HO6.out.lt _ hg).1
          have BA : Below w6.heap.size w6 (w6.alloc (.cells #[.int .i64 x] 3)) := (Below.refl _ _).alloc (Nat.le_refl _) _
          have hB3 := bthen HB6.out BA
          have HB7 : Hid (Below w2.heap.size w2 w7) := Lib.hid (hB3.trans ⟨HG7.out.os, HG7.out.tape, HG7.out.output, HG7.out.size, fun i hi => HG7.out.block i (Nat.lt_of_lt_of_le hi hB3.size) (fun e => by have := hob _ e.symm; omega)⟩)
          have HR7 := Lib.hid ((HR6.out.next BA).grown HG7.out (fun e => by have := hob _ e.symm; omega) (fun e => by have := hob _ e.symm; omega))
          go_roundw
          case rel => exact ⟨A7, n4 + 1, c7, done ++ [x], cnt1, rfl, Lib.hid (by rw [filter_snoc, hsb, if_pos rfl]; exact HO7.out), HR7, HB7⟩
          case measure => rw [HR7.out.left_eq, hle]; exact hlt1
end Go.Proofs.Ytpdfhbgemmpleaa.T
