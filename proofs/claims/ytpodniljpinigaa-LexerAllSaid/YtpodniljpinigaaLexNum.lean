/- The contracts of the lexer's number, here, At; value.Int and value.Text. -/
import Derived.Test.YtpodniljpinigaaLexPass
namespace Go.Proofs.Ytpodniljpinigaa.X
open Go.RowKit O V S

theorem numV_step {l : List UInt8} {k : Nat} (h : k < l.length) : numV (l.take (k + 1)) = 10 * numV (l.take k) + (l[k].toNat - 48) := by
  unfold numV
  rw [List.take_succ_eq_append_getElem h, List.foldl_append]
  rfl
theorem numV_mono : ∀ (b : List UInt8) (n : Nat), n ≤ b.foldl (fun n c => 10 * n + (c.toNat - 48)) n
  | [], n => Nat.le_refl n
  | c :: r, n => by
    have := numV_mono r (10 * n + (c.toNat - 48))
    rw [List.foldl_cons]; omega
theorem numV_take (l : List UInt8) (k : Nat) (h : k < l.length) : 10 * numV (l.take k) ≤ numV l := by
  have h1 : numV (l.take (k + 1)) ≤ numV l := by
    have := numV_mono (l.drop (k + 1)) (numV (l.take (k + 1)))
    unfold numV at this ⊢
    rw [← List.foldl_append, List.take_append_drop] at this
    exact this
  rw [numV_step h] at h1
  omega
theorem num10 (n : Nat) (c : UInt8) (hd : digitC c = true) : 10 * (n : Int) + ((c.toNat : Int) - 48) % 256 = ((10 * n + (c.toNat - 48) : Nat) : Int) := by
  have := c.toNat_lt
  simp only [digitC, Bool.and_eq_true, decide_eq_true_eq] at hd
  omega
set_option maxHeartbeats 1000000 in
set_option maxRecDepth 100000 in
theorem lnum_any (l : List UInt8) (w : World) (hl : 0 < l.length) (hd : ∀ k (h : k < l.length), digitC l[k] = true) (hn : l.length ≤ 20000) : Calls Try.prog 62 #[.string ⟨l.toArray⟩] w fun e w' => w = w' ∧ ∃ k : Int, e = .returned (.tuple #[.int .i64 k, .bool (numOk l)]) ∧ (numOk l = true → k = (numV l : Nat)) := by
  have hsz : (ByteArray.mk l.toArray).size = l.length := by simp [ByteArray.size]
  go_enter Try.func62, Try.ntmps62
  go_wp2_with fail
  go_loop [2, 3, 4, 8] (fun r f v i => ∃ k : Nat, k ≤ l.length ∧ i = .int .i64 k ∧ v = .int .u64 (numV (l.take k) : Nat) ∧ numV (l.take k) ≤ 9223372036854775809) (fun _ _ _ i => l.length - (intOf i).toNat)
  case atStart => exact ⟨0, by omega, rfl, by simp [numV], by simp [numV]⟩
  case round =>
    obtain ⟨k, hk, rfl, rfl, hv⟩ := hrel
    by_cases hlt : k < l.length
    · have hst := Lib.hid (numV_step hlt)
      have htk := Lib.hid (numV_take l k hlt)
      have hdk := hd k hlt
      obtain ⟨c, hc⟩ : ∃ c, l[k] = c := ⟨_, rfl⟩
      rw [hc] at hst hdk
      have hx := ba_at l k hlt hc
      clear hc
      generalize numV (l.take k) = n at *
      by_cases hg : n ≤ 922337203685477580
      · have d1 : decide ((n : Int) > 922337203685477580) = false := by simp; omega
        have d2 : decide (922337203685477580 < (n : Int)) = false := by simp; omega
        have hw := Lib.hid (num10 n c hdk)
        have hcl : c.toNat - 48 ≤ 9 := by simp only [digitC, Bool.and_eq_true, decide_eq_true_eq] at hdk; omega
        have hbd : Hid (10 * n + (c.toNat - 48) ≤ 9223372036854775809) := Lib.hid (by omega)
        clear hd hdk
        go_wp2_with fail
        go_round
        case rel => exact ⟨k + 1, by omega, by go_num, by rw [hst.out, ← hw.out], by rw [hst.out]; exact hbd.out⟩
        case measure => simp [intOf]; omega
      · have d1 : decide ((n : Int) > 922337203685477580) = true := by simp; omega
        have d2 : decide (922337203685477580 < (n : Int)) = true := by simp; omega
        have hno : Hid (numOk l = false) := Lib.hid (by unfold numOk; have := htk.out; simp; intro h; omega)
        clear hd hdk
        go_wp2_with fail
        go_ret2
        exact ⟨rfl, 0, by rw [hno.out]; rfl, by rw [hno.out]; intro h; cases h⟩
    · obtain rfl : k = l.length := by omega
      rw [List.take_length] at hv
      rw [List.take_length]
      obtain ⟨c, hc⟩ : ∃ c, l[0] = c := ⟨_, rfl⟩
      have hx := ba_at l 0 hl hc
      have hok : Hid (numOk l = (decide (numV l < 9223372036854775808) && (decide (c.toNat ≠ 48) || decide (l.length = 1)))) := Lib.hid (by
        unfold numOk
        rw [List.getD_eq_getElem?_getD, List.getElem?_eq_getElem hl, hc]; rfl)
      obtain ⟨n, hnn⟩ : ∃ n, numV l = n := ⟨_, rfl⟩
      rw [hnn] at hv hok
      rw [hnn]
      have HN := Lib.hid hnn
      clear hd hnn hc
      have e1 : ((c.toNat : Int) != 48) = decide (c.toNat ≠ 48) := by rw [Bool.eq_iff_iff]; simp; omega
      have e1' : ((c.toNat : Int) == 48) = !decide (c.toNat ≠ 48) := by rw [Bool.eq_iff_iff]; simp; omega
      have e2 : ((l.length : Int) == 1) = decide (l.length = 1) := by rw [Bool.eq_iff_iff]; simp; omega
      have e3 : decide ((n : Int) < 9223372036854775808) = decide (n < 9223372036854775808) := by rw [Bool.eq_iff_iff]; simp; omega
      cases h1 : decide (n < 9223372036854775808)
      · rw [h1] at e3 hok
        clear e1 e1' e2
        go_wp2_with fail
        go_ret2
        exact ⟨rfl, _, by rw [hok.out]; rfl, by rw [hok.out]; intro h; cases h⟩
      · have hlt := of_decide_eq_true h1
        rw [h1] at e3 hok
        cases h2 : decide (c.toNat ≠ 48)
        · rw [h2] at e1 e1' hok
          go_wp2_with fail
          go_ret2
          exact ⟨rfl, (n : Int), by rw [hok.out]; simp, fun _ => by rw [HN.out]⟩
        · rw [h2] at e1 e1' hok
          clear e2
          go_wp2_with fail
          go_ret2
          exact ⟨rfl, (n : Int), by rw [hok.out]; rfl, fun _ => by rw [HN.out]⟩
def pv (o l c : Int) : Value := .agg #[.int .i64 o, .int .i64 l, .int .i64 c]
/-- The place of an index. -/
def plc (s : List UInt8) (i : Nat) : Value := pv i (lineOf s i) ((i : Int) - (startOf s i : Int) + 1)
theorem lint_any (n : Int) (w : World) : Calls Try.prog 45 #[.int .i64 n] w fun e w' => e = .returned (vv ⟨1, n, []⟩) ∧ Below w.heap.size w w' := by
  go_enter Try.func45, Try.ntmps45
  go_wp2_with fail
  refine bodyPost_ret (v := vv ⟨1, n, []⟩) (by simp [results, Try.results45, go_sem, vv]) rfl ?_
  refine ⟨rfl, ?_⟩
  repeat (first | (with_reducible exact Below.refl _ _) | (with_reducible assumption) | refine Below.setCell ?_ (by simp <;> omega) _ | refine Below.alloc ?_ (by simp <;> omega) _ | refine Below.drew ?_)
theorem ltext_any (s : List UInt8) (w : World) : Calls Try.prog 48 #[.string ⟨s.toArray⟩] w fun e w' => e = .returned (vv ⟨3, 0, s⟩) ∧ Below w.heap.size w w' := by
  go_enter Try.func48, Try.ntmps48
  go_wp2_with fail
  refine bodyPost_ret (v := vv ⟨3, 0, s⟩) (by simp [results, Try.results48, go_sem, vv]) rfl ?_
  refine ⟨rfl, ?_⟩
  repeat (first | (with_reducible exact Below.refl _ _) | (with_reducible assumption) | refine Below.setCell ?_ (by simp <;> omega) _ | refine Below.alloc ?_ (by simp <;> omega) _ | refine Below.drew ?_)
theorem here_any (o l c : Nat) (w : World) (ho : o ≤ 20000) (hc : c ≤ 20000) : Calls Try.prog 58 #[pv o l c] w fun e w' => e = .returned (pv o l ((o : Int) - (c : Int) + 1)) ∧ Below w.heap.size w w' := by
  unfold pv
  go_enter Try.func58, Try.ntmps58
  go_wp2_with fail
  refine bodyPost_ret (v := pv o l ((o : Int) - (c : Int) + 1)) (by simp [results, Try.results58, go_sem, pv]) rfl ?_
  refine ⟨rfl, ?_⟩
  repeat (first | (with_reducible exact Below.refl _ _) | (with_reducible assumption) | refine Below.setCell ?_ (by simp <;> omega) _ | refine Below.alloc ?_ (by simp <;> omega) _ | refine Below.drew ?_)
def clampI (s : List UInt8) (off : Int) : Nat := if off < 0 then 0 else if (s.length : Int) < off then s.length else off.toNat
theorem clamp_le (s : List UInt8) (off : Int) : clampI s off ≤ s.length := by
  unfold clampI; split
  · omega
  · split <;> omega
theorem at_plain (s : List UInt8) (i : Nat) (hi : i ≤ s.length) : (1 + (Lib.countByte ((ByteArray.mk s.toArray).extract 0 i).data.toList 10 : Int) = (lineOf s i : Int)) ∧ ((i : Int) - Lib.lastIndexByte ((ByteArray.mk s.toArray).extract 0 i) 10 = (i : Int) - (startOf s i : Int) + 1) := by
  have hcut := cut_at s 0 i i (by omega)
  rw [hcut]
  have hline := line_add s 0 i (by omega)
  have hlast := last_cases ((s.drop 0).take i)
  have hul : ((s.drop 0).take i).length = i := by simp; omega
  have hgd := fun j hj => getD_cut (s := s) (i := 0) (n := i) (j := j) (by omega) hj
  constructor
  · simp only [Lib.countByte]
    rw [Nat.zero_add] at hline
    rw [hline]
    simp [lineOf]
  · rcases hlast with ⟨h1, h2⟩ | ⟨p, hp, h1, h2, h3⟩
    · rw [h1]
      have := start_no s 0 i (fun j hj1 hj2 => by
        have := h2 j (by omega)
        rw [hgd _ (by omega)] at this
        simpa using this)
      rw [Nat.zero_add] at this
      rw [this]; simp [startOf]
    · rw [h1]
      have := start_at s 0 p i (by omega) (by rw [← hgd p (by omega)]; exact h2) (fun j hj1 hj2 => by rw [← hgd j hj2]; exact h3 j hj1 (by omega))
      rw [Nat.zero_add] at this
      rw [this]; omega
theorem at_any (s : List UInt8) (off : Int) (w : World) (hs : s.length ≤ 20000) : Calls Try.prog 25 #[.string ⟨s.toArray⟩, .int .i64 off] w fun e w' => e = .returned (plc s (clampI s off)) ∧ Below w.heap.size w w' := by
  have hsz : (ByteArray.mk s.toArray).size = s.length := by simp [ByteArray.size]
  obtain ⟨i, hi⟩ : ∃ i, clampI s off = i := ⟨_, rfl⟩
  have hi2 := clamp_le s off
  rw [hi] at hi2
  have hcl : max 0 (min off (s.length : Int)) = (i : Int) := by
    rw [← hi]; unfold clampI
    split
    · omega
    · split <;> omega
  have HP := Lib.hid (at_plain s i hi2)
  rw [hi]
  have HI := Lib.hid hi
  clear hi
  go_enter Try.func25, Try.ntmps25
  go_wp2_with fail
  have hlo := lineOf_le s i
  have hso := startOf_le s i
  obtain ⟨h1, h2⟩ := HP.out
  obtain ⟨u, hu⟩ : ∃ u, (ByteArray.mk s.toArray).extract 0 i = u := ⟨_, rfl⟩
  have hus : u.size ≤ 20000 := by rw [← hu]; simp [ByteArray.size_extract]; omega
  rw [hu] at h1 h2
  rw [hu]
  obtain ⟨k, hk⟩ : ∃ k, Lib.countByte u.data.toList 10 = k := ⟨_, rfl⟩
  obtain ⟨q, hq⟩ : ∃ q : Int, Lib.lastIndexByte u 10 = q := ⟨_, rfl⟩
  rw [hk] at h1
  rw [hq] at h2
  have hk2 : k ≤ 20000 := by omega
  have hq1 : -1 ≤ q := by omega
  have hq2 : q ≤ 20000 := by omega
  have H1 := Lib.hid h1
  have H2 := Lib.hid h2
  clear h1 h2 hlo hso hu hcl
  refine (Try.strings_Count_one u 10 _).mono ?_; rintro e w1 ⟨rfl, rfl⟩
  rw [hk]
  go_wp2_with fail
  refine (Try.strings_LastIndex_one u ⟨#[10]⟩ rfl (by omega) _).mono ?_; rintro e w1 ⟨he, rfl⟩
  replace he : e = .returned (.int .i64 q) := he.trans (by rw [← hq]; rfl)
  subst he
  go_wp2_with fail
  refine bodyPost_ret (v := plc s i) (by simp [results, Try.results25, go_sem, plc, pv, ← H1.out, ← H2.out]) rfl ?_
  have H1 := H1.out
  have H2 := H2.out
  refine ⟨rfl, ?_⟩
  repeat (first | (with_reducible exact Below.refl _ _) | (with_reducible assumption) | refine Below.setCell ?_ (by simp <;> omega) _ | refine Below.alloc ?_ (by simp <;> omega) _ | refine Below.drew ?_)
end Go.Proofs.Ytpodniljpinigaa.X
