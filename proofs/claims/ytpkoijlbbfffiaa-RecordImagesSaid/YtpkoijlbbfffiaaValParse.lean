/- The contracts of value.unquoted, number, Parse. -/
import Derived.Test.YtpkoijlbbfffiaaValPlain4
import Derived.Test.YtpkoijlbbfffiaaValPrint
import Derived.Test.YtpkoijlbbfffiaaShelfStr
import Derived.Test.YtpkoijlbbfffiaaReps
import Derived.IntWalk
namespace Go.Proofs.Ytpkoijlbbfffiaa.V
open Go.RowKit O

theorem mid_len (s : List UInt8) : (mid s).length = s.length - 2 := by unfold mid; simp; omega
theorem mid_get {s : List UInt8} {k : Nat} (h : k < (mid s).length) (h' : k + 1 < s.length) : (mid s)[k] = s[k + 1] := by
  simp [mid, Nat.add_comm]
theorem unq_step1 {m done : List UInt8} {k : Nat} (h : k < m.length) (hc : ¬ m[k].toNat = 92) (H : unqM m = done ++ unqM (m.drop k)) : unqM m = (done ++ [m[k]]) ++ unqM (m.drop (k + 1)) := by
  rw [H, List.drop_eq_getElem_cons h, unqM_cons hc]
  simp
theorem unq_step2 {m done : List UInt8} {k : Nat} (h : k + 1 < m.length) (hc : m[k].toNat = 92) (H : unqM m = done ++ unqM (m.drop k)) : unqM m = (done ++ [m[k + 1]]) ++ unqM (m.drop (k + 2)) := by
  rw [H, List.drop_eq_getElem_cons (by omega), List.drop_eq_getElem_cons h, unqM_two hc]
  simp
theorem unq_step3 {m done : List UInt8} {k : Nat} (h : k + 1 = m.length) (hc : m[k].toNat = 92) (H : unqM m = done ++ unqM (m.drop k)) : unqM m = done ++ unqM (m.drop (k + 2)) := by
  rw [H, List.drop_eq_getElem_cons (by omega), List.drop_of_length_le (by omega), List.drop_of_length_le (by omega), unqM_one hc]
  rfl
theorem unq_end {m done : List UInt8} {k : Nat} (h : m.length ≤ k) (H : unqM m = done ++ unqM (m.drop k)) : unqM m = done := by
  rw [H, List.drop_of_length_le h]
  simp [unqM]
set_option maxHeartbeats 2000000 in
set_option maxRecDepth 100000 in
theorem unquoted_any (s : List UInt8) (w : World) (hs : s.length ≤ 1000000000) : Calls Try.prog 96 #[.string ⟨s.toArray⟩] w fun e w' => e = .returned (.string ⟨(unqM (mid s)).toArray⟩) ∧ Below w.heap.size w w' := by
  have hsz : (ByteArray.mk s.toArray).size = s.length := by simp [ByteArray.size]
  have hml := mid_len s
  have HM := Lib.hid hml; clear hml
  go_enter Try.func96, Try.ntmps96
  go_wp2_with fail
  go_loopw [4] (fun i wr => ∃ (k : Nat) (done : List UInt8), i = .int .i64 ((k : Int) + 1) ∧ Bld w.heap.size done wr ∧ Hid (unqM (mid s) = done ++ unqM ((mid s).drop k)) ∧ k ≤ (mid s).length + 1 ∧ done.length ≤ k ∧ Below w.heap.size w wr) (fun i _ => s.length + 2 - (intOf i).toNat)
  case atStart => exact ⟨0, [], rfl, Bld.fresh w, Lib.hid (by simp), by omega, by simp, (Below.refl _ _).alloc (Nat.le_refl _) _⟩
  case round =>
    obtain ⟨k, done, rfl, hd, H, hk, hdl, hb⟩ := hrel
    by_cases hlt : k < (mid s).length
    · have hk1 : k + 1 < s.length := by have := HM.out; omega
      have hlt' : decide ((k : Int) + 1 < (s.length : Int) - 1) = true := by have := HM.out; simp; omega
      have hg := mid_get hlt hk1
      obtain ⟨c, hc⟩ : ∃ c, s[k + 1] = c := ⟨_, rfl⟩
      rw [hc] at hg
      have hx := ba_at s (k + 1) hk1 hc
      have hki : (k : Int) + 1 < (s.length : Int) := by omega
      have hnat : ((k : Int) + 1).toNat = k + 1 := by omega
      by_cases h92 : c.toNat = 92
      · by_cases hlt2 : k + 1 < (mid s).length
        · have hk2 : k + 2 < s.length := by have := HM.out; omega
          obtain ⟨d, hd2⟩ : ∃ d, s[k + 2] = d := ⟨_, rfl⟩
          have hg2 := mid_get hlt2 (by omega)
          rw [hd2] at hg2
          have hst := Lib.hid (unq_step2 hlt2 (by rw [hg]; exact h92) H.out)
          rw [hg2] at hst
          have hx2 := ba_at s (k + 2) hk2 hd2
          have hlt2' : decide ((k : Int) + 1 + 1 < (s.length : Int) - 1) = true := by have := HM.out; simp; omega
          have g92 : ((c.toNat : Int) == 92) = true := by simp; omega
          have hnat2 : ((k : Int) + 1 + 1).toNat = k + 2 := by omega
          have hmx : k + 2 < s.length := hk2
          clear h92 hg hg2 hc hd2 H
          go_wp2_with fail
          refine (write_any hd d (by omega) (by omega)).mono ?_; rintro e w3 ⟨rfl, d3, b3⟩
          go_wp2_with fail
          go_roundw
          case rel => exact ⟨k + 2, done ++ [d], by go_num, d3, hst, by omega, by simp; omega, Below.trans hb b3⟩
          case measure => simp [intOf]; omega
        · have hst := Lib.hid (unq_step3 (by omega) (by rw [hg]; exact h92) H.out)
          have hlt2' : decide ((k : Int) + 1 + 1 < (s.length : Int) - 1) = false := by have := HM.out; simp; omega
          have g92 : ((c.toNat : Int) == 92) = true := by simp; omega
          clear h92 hg hc H
          go_wp2_with fail
          go_roundw
          case rel => exact ⟨k + 2, done, by go_num, hd, hst, by omega, by omega, hb⟩
          case measure => have := HM.out; simp [intOf]; omega
      · have hst := Lib.hid (unq_step1 hlt (by rw [hg]; exact h92) H.out)
        rw [hg] at hst
        have g92 : ((c.toNat : Int) == 92) = false := by simp; omega
        clear h92 hg hc H
        go_wp2_with fail
        refine (write_any hd c (by omega) (by omega)).mono ?_; rintro e w3 ⟨rfl, d3, b3⟩
        go_wp2_with fail
        go_roundw
        case rel => exact ⟨k + 1, done ++ [c], by go_num, d3, hst, by omega, by simp; omega, Below.trans hb b3⟩
        case measure => have := HM.out; simp [intOf]; omega
    · have hlt' : decide ((k : Int) + 1 < (s.length : Int) - 1) = false := by have := HM.out; simp; omega
      have hen := Lib.hid (unq_end (by omega) H.out)
      clear H
      go_wp2_with fail
      refine (string_any hd).mono ?_; rintro e w4 ⟨rfl, b4⟩
      go_wp2_with fail
      go_ret
      exact ⟨by rw [hen.out]; rfl, Below.trans hb b4⟩
theorem num_step {t : List UInt8} {k : Nat} (h : k < t.length) : numF (t.take (k + 1)) = numStep (numF (t.take k)) t[k] := by
  rw [List.take_succ_eq_append_getElem h, numF_snoc]
theorem num_wrap (n : Nat) (c : UInt8) (hn : n < 18446744073709551616) : IntKind.u64.wrap (IntKind.u64.wrap (10 * (n : Int)) + IntKind.u8.wrap ((c.toNat : Int) - 48)) = ((numStep n c : Nat) : Int) := by
  have hc := c.toNat_lt
  simp only [numStep, IntKind.wrap, IntKind.signed, IntKind.bits]
  simp
  omega
theorem toI_wrap (n : Nat) (h : n < 18446744073709551616) : wrap64 (n : Int) = toI n := by
  unfold toI wrap64
  split <;> omega
theorem toI_neg (n : Nat) (h : n < 18446744073709551616) : wrap64 (IntKind.u64.wrap (-(n : Int))) = toI ((18446744073709551616 - n) % 18446744073709551616) := by
  unfold toI wrap64
  simp only [IntKind.wrap, IntKind.signed, IntKind.bits]
  simp
  split <;> omega
theorem trim_yes (r : List UInt8) : Lib.trimPrefix (45 :: r) [45] = r := by simp [Lib.trimPrefix, Lib.hasPrefix]
theorem trim_no {c : UInt8} (h : ¬ c.toNat = 45) (r : List UInt8) : Lib.trimPrefix (c :: r) [45] = c :: r := by
  have : ¬ c = 45 := fun e => h (by rw [e]; rfl)
  have this' : ¬ (45 : UInt8) = c := fun e => this e.symm
  simp [Lib.trimPrefix, Lib.hasPrefix, this']
theorem trim_len (s : List UInt8) : (Lib.trimPrefix s [45]).length ≤ s.length := by unfold Lib.trimPrefix; split <;> simp
theorem trim_cases (s : List UInt8) : ((Lib.trimPrefix s [45] == s) = true ∧ numS s = toI (numF (Lib.trimPrefix s [45]))) ∨ ((Lib.trimPrefix s [45] == s) = false ∧ numS s = toI ((18446744073709551616 - numF (Lib.trimPrefix s [45])) % 18446744073709551616)) := by
  cases s with
  | nil => left; exact ⟨by decide, by decide⟩
  | cons c r =>
    by_cases h : c.toNat = 45
    · have hc : c = 45 := UInt8.toNat_inj.1 (by rw [h]; rfl)
      subst hc
      right
      rw [trim_yes]
      refine ⟨?_, by simp [numS]⟩
      rw [beq_eq_false_iff_ne]
      intro e
      have := congrArg List.length e
      simp at this
    · left
      rw [trim_no h]
      refine ⟨by simp, ?_⟩
      unfold numS
      simp only [if_neg h]
set_option maxHeartbeats 1000000 in
set_option maxRecDepth 100000 in
theorem number_any (s : List UInt8) (w : World) (hs : s.length ≤ 1000000000) : Calls Try.prog 95 #[.string ⟨s.toArray⟩] w fun e w' => e = .returned (.int .i64 (numS s)) ∧ w = w' := by
  obtain ⟨t, ht⟩ : ∃ t, Lib.trimPrefix s [45] = t := ⟨_, rfl⟩
  have hsplit : ((t == s) = true ∧ numS s = toI (numF t)) ∨ ((t == s) = false ∧ numS s = toI ((18446744073709551616 - numF t) % 18446744073709551616)) := by
    subst ht
    exact trim_cases s
  have htl : t.length ≤ 1000000000 := by subst ht; have := trim_len s; omega
  have hsz : (ByteArray.mk t.toArray).size = t.length := by simp [ByteArray.size]
  have Ht := Lib.hid ht
  have HS := Lib.hid hsplit
  clear ht hsplit
  go_enter Try.func95, Try.ntmps95
  go_wp2_with fail
  refine (Try.strings_TrimPrefix ⟨s.toArray⟩ ⟨#[45]⟩ _).mono ?_; rintro e w1 ⟨rfl, rfl⟩
  rw [show Lib.trimPrefix (ByteArray.mk s.toArray).data.toList (ByteArray.mk #[45]).data.toList = t from Ht.out]
  go_wp2_with fail
  go_loop [4, 5, 10] (fun v _ i => ∃ k : Nat, k ≤ t.length ∧ i = .int .i64 k ∧ v = .int .u64 (numF (t.take k) : Nat)) (fun _ _ i => t.length - (intOf i).toNat)
  case atStart => exact ⟨0, by omega, rfl, by simp [numF]⟩
  case round =>
    obtain ⟨k, hk, rfl, rfl⟩ := hrel
    have hlt64 := numF_lt (t.take k)
    by_cases hlt : k < t.length
    · have hst := Lib.hid (num_step hlt)
      obtain ⟨c, hc⟩ : ∃ c, t[k] = c := ⟨_, rfl⟩
      rw [hc] at hst
      have hx := ba_at t k hlt hc
      have hw := Lib.hid (num_wrap (numF (t.take k)) c hlt64)
      clear hc
      generalize numF (t.take k) = n at *
      go_wp2_with fail
      go_round
      case rel => exact ⟨k + 1, by omega, by go_num, by rw [hst.out, ← hw.out]; rfl⟩
      case measure => simp [intOf]; omega
    · obtain rfl : k = t.length := by omega
      rw [List.take_length] at hlt64 ⊢
      rcases HS.out with ⟨h1, h2⟩ | ⟨h1, h2⟩
      · have H2 := Lib.hid h2; clear h2
        have h1' : (t != s) = false := by unfold bne; rw [h1]; rfl
        generalize numF t = n at *
        have hf := Lib.hid (toI_wrap n hlt64)
        go_wp2_with fail
        go_ret
        exact ⟨by rw [H2.out, ← hf.out]; rfl, rfl⟩
      · have H2 := Lib.hid h2; clear h2
        have h1' : (t != s) = true := by unfold bne; rw [h1]; rfl
        generalize numF t = n at *
        have hf := Lib.hid (toI_neg n hlt64)
        go_wp2_with fail
        go_ret
        exact ⟨by rw [H2.out, ← hf.out]; rfl, rfl⟩
theorem unqM_len : ∀ l : List UInt8, (unqM l).length ≤ l.length
  | [] => by simp [unqM]
  | [c] => by unfold unqM; split <;> simp
  | c :: d :: r => by
    have h1 := unqM_len r
    have h2 := unqM_len (d :: r)
    unfold unqM
    split
    · simp; omega
    · simp at h2 ⊢; omega
theorem find_none_step {l : List Val} {p : Val → Bool} {k : Nat} {v : Val} (hv : l[k]? = some v) (h : (l.take k).find? p = none) (hp : p v = false) : (l.take (k + 1)).find? p = none := by
  obtain ⟨hk, e⟩ := List.getElem?_eq_some_iff.1 hv
  rw [List.take_succ_eq_append_getElem hk, List.find?_append, h, e]
  simp [hp]
theorem find_some_here {l : List Val} {p : Val → Bool} {k : Nat} {v : Val} (hv : l[k]? = some v) (h : (l.take k).find? p = none) (hp : p v = true) : l.find? p = some v := by
  obtain ⟨hk, e⟩ := List.getElem?_eq_some_iff.1 hv
  conv => lhs; rw [← List.take_append_drop k l]
  rw [List.find?_append, h, List.drop_eq_getElem_cons hk, e]
  simp [hp]
def resP (o : Option Val) : Value := match o with
  | none => .tuple #[vv ⟨0, 0, []⟩, .bool false]
  | some v => .tuple #[vv v, .bool true]
/-- The box of Parse's result, and the row of what may be. -/
def PB (w : World) (B : Nat) (n : Int) (u : List UInt8) (W : World) : Prop :=
  W.heap[w.heap.size]? = some (.cells #[.int .i64 0, .int .i64 0, .string ⟨#[]⟩] 23 (0, 0)) ∧
  W.heap[B]? = some (.cells #[.int .i64 1, .int .i64 n, .string ⟨#[]⟩, .int .i64 2, .int .i64 1, .string ⟨#[]⟩, .int .i64 2, .int .i64 0, .string ⟨#[]⟩, .int .i64 3, .int .i64 0, .string ⟨u.toArray⟩] 23 (0, 0)) ∧ Below w.heap.size w W
theorem PB.next {w W W' : World} {B : Nat} {n : Int} {u : List UInt8} (h : PB w B n u W) (b : Below W.heap.size W W') : PB w B n u W' := ⟨box_next h.1 b, box_next h.2.1 b, bthen h.2.2 b⟩
theorem PB.cells {w W : World} {B : Nat} {n : Int} {u : List UInt8} (h : PB w B n u W) :
    ((W.cell? ⟨B, 0, none⟩ = some (.int .i64 1) ∧ W.cell? ⟨B, 1, none⟩ = some (.int .i64 n) ∧ W.cell? ⟨B, 2, none⟩ = some (.string ⟨#[]⟩)) ∧
    (W.cell? ⟨B, 3, none⟩ = some (.int .i64 2) ∧ W.cell? ⟨B, 4, none⟩ = some (.int .i64 1) ∧ W.cell? ⟨B, 5, none⟩ = some (.string ⟨#[]⟩))) ∧
    (W.cell? ⟨B, 6, none⟩ = some (.int .i64 2) ∧ W.cell? ⟨B, 7, none⟩ = some (.int .i64 0) ∧ W.cell? ⟨B, 8, none⟩ = some (.string ⟨#[]⟩)) ∧
    (W.cell? ⟨B, 9, none⟩ = some (.int .i64 3) ∧ W.cell? ⟨B, 10, none⟩ = some (.int .i64 0) ∧ W.cell? ⟨B, 11, none⟩ = some (.string ⟨u.toArray⟩)) := by
  refine ⟨⟨⟨?_, ?_, ?_⟩, ?_, ?_, ?_⟩, ⟨?_, ?_, ?_⟩, ?_, ?_, ?_⟩ <;> (rw [Lib.cell_of_heap h.2.1]; rfl)
set_option maxHeartbeats 4000000 in
set_option maxRecDepth 100000 in
theorem parse_any (s : List UInt8) (w : World) (hs : s.length ≤ 10000000) : Calls Try.prog 35 #[.string ⟨s.toArray⟩] w fun e w' => e = .returned (resP (parseV s)) ∧ Below w.heap.size w w' := by
  have hnb := numS_bounds s
  have hul : (unqM (mid s)).length ≤ s.length := by have := unqM_len (mid s); have := mid_len s; omega
  have hca : cands s = [⟨1, numS s, []⟩, ⟨2, 1, []⟩, ⟨2, 0, []⟩, ⟨3, 0, unqM (mid s)⟩] := rfl
  have hN := number_any s
  have hU := unquoted_any s
  generalize numS s = n at *
  generalize unqM (mid s) = u at *
  have Hhca := Lib.hid hca; clear hca
  have HhN := Lib.hid hN; clear hN
  have HhU := Lib.hid hU; clear hU
  obtain ⟨nb1, nb2⟩ := hnb
  have x0 : (w.alloc (.cells #[.int .i64 0, .int .i64 0, .string ⟨#[]⟩] 23)).heap[w.heap.size]? = some (.cells #[.int .i64 0, .int .i64 0, .string ⟨#[]⟩] 23 (0, 0)) := alloc_at rfl
  have HX0 := Lib.hid x0; clear x0
  go_enter Try.func35, Try.ntmps35
  go_wp2_with fail
  refine (HhN.out _ (by omega)).mono ?_; rintro e w0 ⟨rfl, rfl⟩
  go_wp2_with fail
  refine (int_any n _).mono ?_; rintro e w1 ⟨rfl, b1⟩
  simp only [vv]
  go_wp2_with fail
  refine (bool_any true _).mono ?_; rintro e w2 ⟨rfl, b2⟩
  simp only [vv, if_true]
  go_wp2_with fail
  refine (bool_any false _).mono ?_; rintro e w3 ⟨rfl, b3⟩
  simp only [vv, Bool.false_eq_true, if_false]
  go_wp2_with fail
  refine (HhU.out _ (by omega)).mono ?_; rintro e w4 ⟨rfl, b4⟩
  go_wp2_with fail
  refine (text_any u _).mono ?_; rintro e w5 ⟨rfl, b5⟩
  simp only [vv]
  have B5 := bthen (bthen (bthen (bthen b1 b2) b3) b4) b5
  have P6 : PB w w5.heap.size n u (w5.alloc (.cells #[.int .i64 1, .int .i64 n, .string ⟨#[]⟩, .int .i64 2, .int .i64 1, .string ⟨#[]⟩, .int .i64 2, .int .i64 0, .string ⟨#[]⟩, .int .i64 3, .int .i64 0, .string ⟨u.toArray⟩] 23)) := ⟨alloc_old' (box_next HX0.out B5), alloc_at rfl, bthen (bthen ((Below.refl _ _).alloc (Nat.le_refl _) _) B5) ((Below.refl _ _).alloc (Nat.le_refl _) _)⟩
  have HP6 := Lib.hid P6
  clear P6 b1 b2 b3 b4 b5 B5 HX0
  go_wp2_with fail
  go_loopw [5, 16] (fun _ i wr => ∃ k : Nat, k ≤ 4 ∧ i = .int .i64 k ∧ PB w w5.heap.size n u wr ∧ Hid (((cands s).take k).find? (fitP s) = none)) (fun _ i _ => 4 - (intOf i).toNat)
  case atStart => exact ⟨0, by omega, rfl, HP6.out, Lib.hid rfl⟩
  case round =>
    obtain ⟨k, hk, rfl, P, H⟩ := hrel
    clear HP6
    obtain ⟨⟨⟨c0, c1, c2⟩, c3, c4, c5⟩, ⟨c6, c7, c8⟩, c9, c10, c11⟩ := P.cells
    have HP := Lib.hid P; clear P
    obtain rfl | rfl | rfl | rfl | rfl : k = 0 ∨ k = 1 ∨ k = 2 ∨ k = 3 ∨ k = 4 := by omega
    · have hg : (cands s)[0]? = some ⟨1, n, []⟩ := by rw [Hhca.out]; rfl
      have HG := Lib.hid hg; clear hg
      have y0 : (wr.alloc (.cells #[.int .i64 1, .int .i64 n, .string ⟨#[]⟩] 23)).heap[wr.heap.size]? = some (.cells #[.int .i64 1, .int .i64 n, .string ⟨#[]⟩] 23 (0, 0)) := alloc_at rfl
      have HY0 := Lib.hid y0; clear y0
      have hbl : (⟨1, n, []⟩ : Val).s.length ≤ 1000000000 := by simp
      have HA := Lib.hid (HP.out.next ((Below.refl _ _).alloc (Nat.le_refl _) (.cells #[.int .i64 1, .int .i64 n, .string ⟨#[]⟩] 23)))
      have hr : right ⟨1, n, []⟩ = true := by simp [right]
      cases hp : (printV ⟨1, n, []⟩ == s)
      · have hst := Lib.hid (find_none_step HG.out H.out (show fitP s ⟨1, n, []⟩ = false by rw [fitP, hr, hp]; rfl))
        go_wp2_with fail
        refine (right_any ⟨1, n, []⟩ _ (Nat.le_trans hbl (by omega))).mono ?_; rintro e w1 ⟨rfl, b1⟩
        rw [hr]
        obtain ⟨d0, d1, d2⟩ := cells3 (box_next HY0.out b1)
        go_wp2_with fail
        refine (print_any ⟨1, n, []⟩ _ hbl (by simp; try omega) (by simp; try omega)).mono ?_; rintro e w2 ⟨rfl, b2⟩
        go_wp2_with fail
        go_roundw
        case rel => exact ⟨1, by omega, by go_num, (HA.out.next b1).next b2, hst⟩
        case measure => simp [intOf]
      · have hst := Lib.hid (find_some_here HG.out H.out (show fitP s ⟨1, n, []⟩ = true by rw [fitP, hr, hp]; rfl))
        go_wp2_with fail
        refine (right_any ⟨1, n, []⟩ _ (Nat.le_trans hbl (by omega))).mono ?_; rintro e w1 ⟨rfl, b1⟩
        rw [hr]
        obtain ⟨d0, d1, d2⟩ := cells3 (box_next HY0.out b1)
        go_wp2_with fail
        refine (print_any ⟨1, n, []⟩ _ hbl (by simp; try omega) (by simp; try omega)).mono ?_; rintro e w2 ⟨rfl, b2⟩
        have A2 := (HA.out.next b1).next b2
        have Y2 := box_next (box_next HY0.out b1) b2
        clear d0 d1 d2
        obtain ⟨d0, d1, d2⟩ := cells3 Y2
        obtain ⟨f0, f1, f2⟩ := cells3 A2.1
        have z0 : w2.frozen? ⟨w.heap.size, 0, none⟩ = false := Lib.frozen_of_heap A2.1 0
        have z1 : w2.frozen? ⟨w.heap.size, 1, none⟩ = false := Lib.frozen_of_heap A2.1 1
        have z2 : w2.frozen? ⟨w.heap.size, 2, none⟩ = false := Lib.frozen_of_heap A2.1 2
        have HB2 := A2.2.2
        clear A2 Y2
        go_wp2_with fail
        refine bodyPost_ret (v := .tuple #[vv ⟨1, n, []⟩, .bool true]) (by simp [results, Try.results35, go_sem, vv, f0, f1, f2]) rfl ?_
        refine ⟨?_, ?_⟩
        · unfold parseV; rw [hst.out]; rfl
        · repeat (first | (with_reducible exact Below.refl _ _) | (with_reducible assumption) | refine Below.setCell ?_ (by simp <;> omega) _ | refine Below.alloc ?_ (by simp <;> omega) _ | refine Below.drew ?_)
    · have hg : (cands s)[1]? = some ⟨2, 1, []⟩ := by rw [Hhca.out]; rfl
      have HG := Lib.hid hg; clear hg
      have y0 : (wr.alloc (.cells #[.int .i64 2, .int .i64 1, .string ⟨#[]⟩] 23)).heap[wr.heap.size]? = some (.cells #[.int .i64 2, .int .i64 1, .string ⟨#[]⟩] 23 (0, 0)) := alloc_at rfl
      have HY0 := Lib.hid y0; clear y0
      have hbl : (⟨2, 1, []⟩ : Val).s.length ≤ 1000000000 := by simp
      have HA := Lib.hid (HP.out.next ((Below.refl _ _).alloc (Nat.le_refl _) (.cells #[.int .i64 2, .int .i64 1, .string ⟨#[]⟩] 23)))
      have hr : right ⟨2, 1, []⟩ = true := by simp [right]
      cases hp : (printV ⟨2, 1, []⟩ == s)
      · have hst := Lib.hid (find_none_step HG.out H.out (show fitP s ⟨2, 1, []⟩ = false by rw [fitP, hr, hp]; rfl))
        go_wp2_with fail
        refine (right_any ⟨2, 1, []⟩ _ (Nat.le_trans hbl (by omega))).mono ?_; rintro e w1 ⟨rfl, b1⟩
        rw [hr]
        obtain ⟨d0, d1, d2⟩ := cells3 (box_next HY0.out b1)
        go_wp2_with fail
        refine (print_any ⟨2, 1, []⟩ _ hbl (by simp; try omega) (by simp; try omega)).mono ?_; rintro e w2 ⟨rfl, b2⟩
        go_wp2_with fail
        go_roundw
        case rel => exact ⟨2, by omega, by go_num, (HA.out.next b1).next b2, hst⟩
        case measure => simp [intOf]
      · have hst := Lib.hid (find_some_here HG.out H.out (show fitP s ⟨2, 1, []⟩ = true by rw [fitP, hr, hp]; rfl))
        go_wp2_with fail
        refine (right_any ⟨2, 1, []⟩ _ (Nat.le_trans hbl (by omega))).mono ?_; rintro e w1 ⟨rfl, b1⟩
        rw [hr]
        obtain ⟨d0, d1, d2⟩ := cells3 (box_next HY0.out b1)
        go_wp2_with fail
        refine (print_any ⟨2, 1, []⟩ _ hbl (by simp; try omega) (by simp; try omega)).mono ?_; rintro e w2 ⟨rfl, b2⟩
        have A2 := (HA.out.next b1).next b2
        have Y2 := box_next (box_next HY0.out b1) b2
        clear d0 d1 d2
        obtain ⟨d0, d1, d2⟩ := cells3 Y2
        obtain ⟨f0, f1, f2⟩ := cells3 A2.1
        have z0 : w2.frozen? ⟨w.heap.size, 0, none⟩ = false := Lib.frozen_of_heap A2.1 0
        have z1 : w2.frozen? ⟨w.heap.size, 1, none⟩ = false := Lib.frozen_of_heap A2.1 1
        have z2 : w2.frozen? ⟨w.heap.size, 2, none⟩ = false := Lib.frozen_of_heap A2.1 2
        have HB2 := A2.2.2
        clear A2 Y2
        go_wp2_with fail
        refine bodyPost_ret (v := .tuple #[vv ⟨2, 1, []⟩, .bool true]) (by simp [results, Try.results35, go_sem, vv, f0, f1, f2]) rfl ?_
        refine ⟨?_, ?_⟩
        · unfold parseV; rw [hst.out]; rfl
        · repeat (first | (with_reducible exact Below.refl _ _) | (with_reducible assumption) | refine Below.setCell ?_ (by simp <;> omega) _ | refine Below.alloc ?_ (by simp <;> omega) _ | refine Below.drew ?_)
    · have hg : (cands s)[2]? = some ⟨2, 0, []⟩ := by rw [Hhca.out]; rfl
      have HG := Lib.hid hg; clear hg
      have y0 : (wr.alloc (.cells #[.int .i64 2, .int .i64 0, .string ⟨#[]⟩] 23)).heap[wr.heap.size]? = some (.cells #[.int .i64 2, .int .i64 0, .string ⟨#[]⟩] 23 (0, 0)) := alloc_at rfl
      have HY0 := Lib.hid y0; clear y0
      have hbl : (⟨2, 0, []⟩ : Val).s.length ≤ 1000000000 := by simp
      have HA := Lib.hid (HP.out.next ((Below.refl _ _).alloc (Nat.le_refl _) (.cells #[.int .i64 2, .int .i64 0, .string ⟨#[]⟩] 23)))
      have hr : right ⟨2, 0, []⟩ = true := by simp [right]
      cases hp : (printV ⟨2, 0, []⟩ == s)
      · have hst := Lib.hid (find_none_step HG.out H.out (show fitP s ⟨2, 0, []⟩ = false by rw [fitP, hr, hp]; rfl))
        go_wp2_with fail
        refine (right_any ⟨2, 0, []⟩ _ (Nat.le_trans hbl (by omega))).mono ?_; rintro e w1 ⟨rfl, b1⟩
        rw [hr]
        obtain ⟨d0, d1, d2⟩ := cells3 (box_next HY0.out b1)
        go_wp2_with fail
        refine (print_any ⟨2, 0, []⟩ _ hbl (by simp; try omega) (by simp; try omega)).mono ?_; rintro e w2 ⟨rfl, b2⟩
        go_wp2_with fail
        go_roundw
        case rel => exact ⟨3, by omega, by go_num, (HA.out.next b1).next b2, hst⟩
        case measure => simp [intOf]
      · have hst := Lib.hid (find_some_here HG.out H.out (show fitP s ⟨2, 0, []⟩ = true by rw [fitP, hr, hp]; rfl))
        go_wp2_with fail
        refine (right_any ⟨2, 0, []⟩ _ (Nat.le_trans hbl (by omega))).mono ?_; rintro e w1 ⟨rfl, b1⟩
        rw [hr]
        obtain ⟨d0, d1, d2⟩ := cells3 (box_next HY0.out b1)
        go_wp2_with fail
        refine (print_any ⟨2, 0, []⟩ _ hbl (by simp; try omega) (by simp; try omega)).mono ?_; rintro e w2 ⟨rfl, b2⟩
        have A2 := (HA.out.next b1).next b2
        have Y2 := box_next (box_next HY0.out b1) b2
        clear d0 d1 d2
        obtain ⟨d0, d1, d2⟩ := cells3 Y2
        obtain ⟨f0, f1, f2⟩ := cells3 A2.1
        have z0 : w2.frozen? ⟨w.heap.size, 0, none⟩ = false := Lib.frozen_of_heap A2.1 0
        have z1 : w2.frozen? ⟨w.heap.size, 1, none⟩ = false := Lib.frozen_of_heap A2.1 1
        have z2 : w2.frozen? ⟨w.heap.size, 2, none⟩ = false := Lib.frozen_of_heap A2.1 2
        have HB2 := A2.2.2
        clear A2 Y2
        go_wp2_with fail
        refine bodyPost_ret (v := .tuple #[vv ⟨2, 0, []⟩, .bool true]) (by simp [results, Try.results35, go_sem, vv, f0, f1, f2]) rfl ?_
        refine ⟨?_, ?_⟩
        · unfold parseV; rw [hst.out]; rfl
        · repeat (first | (with_reducible exact Below.refl _ _) | (with_reducible assumption) | refine Below.setCell ?_ (by simp <;> omega) _ | refine Below.alloc ?_ (by simp <;> omega) _ | refine Below.drew ?_)
    · have hg : (cands s)[3]? = some ⟨3, 0, u⟩ := by rw [Hhca.out]; rfl
      have HG := Lib.hid hg; clear hg
      have y0 : (wr.alloc (.cells #[.int .i64 3, .int .i64 0, .string ⟨u.toArray⟩] 23)).heap[wr.heap.size]? = some (.cells #[.int .i64 3, .int .i64 0, .string ⟨u.toArray⟩] 23 (0, 0)) := alloc_at rfl
      have HY0 := Lib.hid y0; clear y0
      have hbl : (⟨3, 0, u⟩ : Val).s.length ≤ 1000000000 := by simp; omega
      have HA := Lib.hid (HP.out.next ((Below.refl _ _).alloc (Nat.le_refl _) (.cells #[.int .i64 3, .int .i64 0, .string ⟨u.toArray⟩] 23)))
      cases hr : right ⟨3, 0, u⟩
      · have hst := Lib.hid (find_none_step HG.out H.out (show fitP s ⟨3, 0, u⟩ = false by rw [fitP, hr]; rfl))
        go_wp2_with fail
        refine (right_any ⟨3, 0, u⟩ _ (Nat.le_trans hbl (by omega))).mono ?_; rintro e w1 ⟨rfl, b1⟩
        rw [hr]
        go_wp2_with fail
        go_roundw
        case rel => exact ⟨4, by omega, by go_num, HA.out.next b1, hst⟩
        case measure => simp [intOf]
      · cases hp : (printV ⟨3, 0, u⟩ == s)
        · have hst := Lib.hid (find_none_step HG.out H.out (show fitP s ⟨3, 0, u⟩ = false by rw [fitP, hr, hp]; rfl))
          go_wp2_with fail
          refine (right_any ⟨3, 0, u⟩ _ (Nat.le_trans hbl (by omega))).mono ?_; rintro e w1 ⟨rfl, b1⟩
          rw [hr]
          obtain ⟨d0, d1, d2⟩ := cells3 (box_next HY0.out b1)
          go_wp2_with fail
          refine (print_any ⟨3, 0, u⟩ _ hbl (by simp; try omega) (by simp; try omega)).mono ?_; rintro e w2 ⟨rfl, b2⟩
          go_wp2_with fail
          go_roundw
          case rel => exact ⟨4, by omega, by go_num, (HA.out.next b1).next b2, hst⟩
          case measure => simp [intOf]
        · have hst := Lib.hid (find_some_here HG.out H.out (show fitP s ⟨3, 0, u⟩ = true by rw [fitP, hr, hp]; rfl))
          go_wp2_with fail
          refine (right_any ⟨3, 0, u⟩ _ (Nat.le_trans hbl (by omega))).mono ?_; rintro e w1 ⟨rfl, b1⟩
          rw [hr]
          obtain ⟨d0, d1, d2⟩ := cells3 (box_next HY0.out b1)
          go_wp2_with fail
          refine (print_any ⟨3, 0, u⟩ _ hbl (by simp; try omega) (by simp; try omega)).mono ?_; rintro e w2 ⟨rfl, b2⟩
          have A2 := (HA.out.next b1).next b2
          have Y2 := box_next (box_next HY0.out b1) b2
          clear d0 d1 d2
          obtain ⟨d0, d1, d2⟩ := cells3 Y2
          obtain ⟨f0, f1, f2⟩ := cells3 A2.1
          have z0 : w2.frozen? ⟨w.heap.size, 0, none⟩ = false := Lib.frozen_of_heap A2.1 0
          have z1 : w2.frozen? ⟨w.heap.size, 1, none⟩ = false := Lib.frozen_of_heap A2.1 1
          have z2 : w2.frozen? ⟨w.heap.size, 2, none⟩ = false := Lib.frozen_of_heap A2.1 2
          have HB2 := A2.2.2
          clear A2 Y2
          go_wp2_with fail
          refine bodyPost_ret (v := .tuple #[vv ⟨3, 0, u⟩, .bool true]) (by simp [results, Try.results35, go_sem, vv, f0, f1, f2]) rfl ?_
          refine ⟨?_, ?_⟩
          · unfold parseV; rw [hst.out]; rfl
          · repeat (first | (with_reducible exact Below.refl _ _) | (with_reducible assumption) | refine Below.setCell ?_ (by simp <;> omega) _ | refine Below.alloc ?_ (by simp <;> omega) _ | refine Below.drew ?_)
    · have hst : Hid (parseV s = none) := Lib.hid (by have := H.out; unfold parseV; rw [← List.take_length (l := cands s)]; exact this)
      obtain ⟨f0, f1, f2⟩ := cells3 HP.out.1
      have z0 : wr.frozen? ⟨w.heap.size, 0, none⟩ = false := Lib.frozen_of_heap HP.out.1 0
      have z1 : wr.frozen? ⟨w.heap.size, 1, none⟩ = false := Lib.frozen_of_heap HP.out.1 1
      have z2 : wr.frozen? ⟨w.heap.size, 2, none⟩ = false := Lib.frozen_of_heap HP.out.1 2
      have HB2 := HP.out.2.2
      go_wp2_with fail
      refine bodyPost_ret (v := .tuple #[vv ⟨0, 0, []⟩, .bool false]) (by simp [results, Try.results35, go_sem, vv, f0, f1, f2]) rfl ?_
      refine ⟨?_, ?_⟩
      · rw [hst.out]; rfl
      · repeat (first | (with_reducible exact Below.refl _ _) | (with_reducible assumption) | refine Below.setCell ?_ (by simp <;> omega) _ | refine Below.alloc ?_ (by simp <;> omega) _ | refine Below.drew ?_)
end Go.Proofs.Ytpkoijlbbfffiaa.V
