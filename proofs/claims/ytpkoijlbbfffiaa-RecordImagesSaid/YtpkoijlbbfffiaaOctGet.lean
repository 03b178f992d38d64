/- The contracts of octets.rest, slices.IndexFunc at octets' own test, GetUint, GetInt, GetText, GetWord. -/
import Derived.Test.YtpkoijlbbfffiaaOctPut2
import Derived.Test.YtpkoijlbbfffiaaOctPlain2
import Derived.Outline
namespace Go.Proofs.Ytpkoijlbbfffiaa.O
open Go.RowKit

theorem rest_no (A : Option Addr) (n c : Nat) (x : Int) (w : World) (h : x < 0 ∨ (n : Int) < x) :
    Calls Try.prog 156 #[.slice A n c, .int .i64 x] w fun e w' => e = .returned (.tuple #[.slice none 0 0, .bool false]) ∧ w = w' := by
  rcases (show x < 0 ∨ 0 ≤ x by omega) with h1 | h1
  · go_enter Try.func156, Try.ntmps156
    go_wp2
    go_ret2
    exact ⟨rfl, rfl⟩
  · have h2 : (n : Int) < x := by omega
    clear h
    go_enter Try.func156, Try.ntmps156
    go_wp2
    go_ret2
    exact ⟨rfl, rfl⟩
def RetRest (n k : Nat) (l : List UInt8) (w : World) (e : Ending) (w' : World) : Prop :=
  ∃ A', e = .returned (.tuple #[.slice A' (n - k) (n - k), .bool true]) ∧ Rd w w.heap.size 1 A' (n - k) (bv (l.drop k)) ∧ w = w'
theorem rest_yes (A : Option Addr) (n c k : Nat) (l : List UInt8) (w : World) (h : Rd w w.heap.size 1 A n (bv l)) (hk : k ≤ n) (hnc : n ≤ c) (_hc : c ≤ 9223372036854775807) :
    Calls Try.prog 156 #[.slice A n c, .int .i64 k] w (RetRest n k l w) := by
  rcases Nat.lt_or_ge k n with h1 | h1
  · have hd := h.from_ h1
    have hne : ¬ n = k := by omega
    have hneg : decide ((k : Int) < 0) = false := by simp
    go_enter Try.func156, Try.ntmps156
    go_wp2
    go_ret2
    exact ⟨_, rfl, hd, rfl⟩
  · obtain rfl : k = n := by omega
    have hd := h.end_ (A' := A)
    have hneg : decide ((k : Int) < 0) = false := by simp
    go_enter Try.func156, Try.ntmps156
    go_wp2
    go_ret2
    exact ⟨A, by simp, hd, rfl⟩

theorem small_any (c : UInt8) (w : World) : Calls Try.prog 158 #[.int .u8 (c.toNat : Int)] w fun e w' => e = .returned (.bool (decide (c.toNat < 128))) ∧ w = w' := by
  go_enter Try.func158, Try.ntmps158
  go_wp2
  go_ret
  exact ⟨ret_bool (by rw [decide_eq_decide]; omega), rfl⟩

def idxI (l : List UInt8) : Int := match fst128 l with | none => -1 | some i => i
theorem fst_split {l : List UInt8} {k : Nat} (hk : k < l.length) (hb : Big (l.take k)) : fst128 l = if (l[k]).toNat < 128 then some k else fst128 l := by
  split
  · rename_i h
    have e : l = l.take k ++ l[k] :: l.drop (k + 1) := by rw [List.getElem_cons_drop, List.take_append_drop]
    have := fst128_at (r := l.drop (k + 1)) hb h
    rw [← e] at this
    rw [this]; simp; omega
  · rfl

set_option maxHeartbeats 400000 in
theorem index_any (A : Option Addr) (n c B : Nat) (l : List UInt8) (w : World) (h : Rd w B 1 A n (bv l)) (hn : n ≤ 1000000000000000000) :
    Calls Try.prog 157 #[.slice A n c, .func (.func 158) #[] #[]] w fun e w' => e = .returned (.int .i64 (idxI l)) ∧ w = w' := by
  have hl : l.length = n := by have := h.1; simp at this; omega
  have hl1 : l.length ≤ n := by omega
  have hl2 : n ≤ l.length := by omega
  clear hl
  go_enter Try.func157, Try.ntmps157
  go_wp2_with fail
  go_loop [5, 8] (fun _ i => ∃ k : Nat, k ≤ n ∧ i = .int .i64 k ∧ Hid (Big (l.take k))) (fun _ i => n - (intOf i).toNat)
  case atStart => exact ⟨0, Nat.zero_le _, rfl, Lib.hid (fun _ hx => by simp at hx)⟩
  case round =>
    obtain ⟨k, hk, rfl, hb⟩ := hrel
    by_cases hkn : k < n
    · obtain ⟨b, off, rfl, _⟩ := h.some_ hkn
      have hc := h.byte (k := k) (by omega)
      have hs := fst_split (k := k) (by omega) hb.out
      have HS := Lib.hid hs
      clear hs
      by_cases h1 : (l[k]'(by omega)).toNat < 128
      · go_wp2_with (go_at_call 158; refine (small_any _ _).mono ?_; rintro e w' ⟨rfl, rfl⟩)
        go_ret
        exact ⟨ret_int (by rw [idxI, HS.out, if_pos h1]), rfl⟩
      · go_wp2_with (go_at_call 158; refine (small_any _ _).mono ?_; rintro e w' ⟨rfl, rfl⟩)
        go_round
        case rel => exact ⟨k + 1, by omega, by go_num, Lib.hid (fun x hx => by
            rw [List.take_succ_eq_append_getElem (by omega)] at hx
            rcases List.mem_append.1 hx with hx | hx
            · exact hb.out x hx
            · simp at hx; subst hx; omega)⟩
        case measure => simp [intOf]; omega
    · obtain rfl : k = n := by omega
      have hb2 : Big l := by have := hb.out; rwa [List.take_of_length_le (by omega)] at this
      go_wp2
      go_ret
      exact ⟨ret_int (by rw [idxI, fst128_none hb2]), rfl⟩

theorem wrap_u64_in (x : Nat) (h : x < 18446744073709551616) : IntKind.u64.wrap (x : Int) = (x : Int) := by
  simp only [IntKind.wrap, IntKind.signed, IntKind.bits]
  simp
  omega
theorem pow7 (t : Nat) (h : t ≤ 9) : (128 : Nat) ^ t ≤ 9223372036854775808 := by
  have : (128 : Nat) ^ t ≤ 128 ^ 9 := Nat.pow_le_pow_right (by omega) h
  omega
/-- One byte more of a number, by or. -/
theorem or_step (d : List UInt8) (t : Nat) (h : t < d.length) (h9 : t ≤ 9) (h1 : t = 9 → (d[t]).toNat ≤ 1) :
    bits .or .u64 ((valN (d.take t) : Nat) : Int) (IntKind.u64.wrap (IntKind.u64.wrap (bits .and .u8 ((d[t]).toNat : Int) 127) * 2 ^ (7 * t))) = ((valN (d.take (t + 1)) : Nat) : Int) := by
  have hc := (d[t]).toNat_lt
  have hb := valN_take d t (by omega)
  have hp := pow7 t h9
  have e1 : bits .and .u8 ((d[t]).toNat : Int) 127 = (((d[t]).toNat % 128 : Nat) : Int) := by
    rw [show (127 : Int) = ((127 : Nat) : Int) from rfl, u8_and_nat _ _ (by omega) (by omega), nat_mask7]
  have e2 : (2 : Int) ^ (7 * t) = ((128 ^ t : Nat) : Int) := by
    have : (128 : Nat) ^ t = 2 ^ (7 * t) := by rw [Nat.pow_mul]
    rw [this]; simp
  have hm : (d[t]).toNat % 128 * 128 ^ t < 18446744073709551616 := by
    rcases (show t = 9 ∨ t ≤ 8 by omega) with rfl | h8
    · have := h1 rfl
      have : (d[9]).toNat % 128 * 128 ^ 9 ≤ 1 * 128 ^ 9 := Nat.mul_le_mul_right _ (by omega)
      omega
    · have h2 : (128 : Nat) ^ t ≤ 128 ^ 8 := Nat.pow_le_pow_right (by omega) h8
      have : (d[t]).toNat % 128 * 128 ^ t ≤ 127 * 128 ^ 8 := Nat.mul_le_mul (by omega) h2
      omega
  rw [e1, wrap_u64_in _ (by omega), e2, ← Int.natCast_mul, wrap_u64_in _ hm, u64_or_nat _ _ (by omega) hm, valN_step d t h, Nat.or_comm]
  have hj := nat_join (7 * t) ((d[t]).toNat % 128 * 128 ^ t) (valN (d.take t)) (by rw [Nat.pow_mul]; exact Nat.mul_mod_left _ _) (by rw [Nat.pow_mul]; exact hb)
  rw [hj, Nat.mul_comm, Nat.add_comm]

/-- What GetUint returns. -/
def resU (o : Option (Nat × Nat)) (x : Int) : Value := match o with
  | none => .tuple #[.int .u64 0, .int .i64 0, .bool false]
  | some (n, k) => .tuple #[.int .u64 n, .int .i64 (x + k), .bool true]

set_option maxRecDepth 100000 in
set_option maxHeartbeats 2000000 in
theorem getUint_in (A : Option Addr) (n c k : Nat) (l : List UInt8) (w : World) (h : Rd w w.heap.size 1 A n (bv l)) (hk : k ≤ n) (hnc : n ≤ c) (hn : n ≤ 1000000000000000000) (hc : c ≤ 9223372036854775807) :
    Calls Try.prog 143 #[.slice A n c, .int .i64 k] w fun e w' => e = .returned (resU (getU (l.drop k)) k) ∧ w = w' := by
  have hl : l.length = n := by have := h.1; simp at this; omega
  go_enter Try.func143, Try.ntmps143
  go_wp2_with fail
  refine (rest_yes A n c k l w h hk hnc (by omega)).mono ?_; rintro e w1 ⟨A', rfl, hr, rfl⟩
  have hdl : (l.drop k).length = n - k := by simp; omega
  obtain ⟨d, hd⟩ : ∃ d, d = l.drop k := ⟨_, rfl⟩
  rw [← hd] at hr hdl
  have HD := Lib.hid hd
  clear h hl hd
  have hdn : d.length ≤ n := by omega
  have hnd : n - k ≤ d.length := by omega
  have hkd : k + d.length ≤ n := by omega
  obtain ⟨m, hm⟩ : ∃ m, m = n - k := ⟨_, rfl⟩
  rw [← hm] at hr hdl hnd ⊢
  subst hdl
  clear hm
  go_wp2_with fail
  refine (index_any A' d.length d.length w.heap.size d w hr (by omega)).mono ?_; rintro e w1 ⟨rfl, rfl⟩
  cases hf : fst128 d with
  | none =>
    have hi : idxI d = -1 := by rw [idxI, hf]
    have hU : getU d = none := by unfold getU; rw [hf]
    have HU := Lib.hid hU
    rw [hi]
    clear hi hf hU
    go_wp2_with fail
    go_ret3
    exact ⟨by rw [← HD.out, HU.out]; rfl, rfl⟩
  | some i =>
    have hi : idxI d = i := by rw [idxI, hf]
    have hU : getU d = if 10 ≤ i ∨ ((d.getD i 0).toNat = 0 ∧ 0 < i) ∨ (i = 9 ∧ 1 < (d.getD i 0).toNat) then none else some (valN (d.take (i + 1)), i + 1) := by conv => { lhs; unfold getU; rw [hf] }
    obtain ⟨q, x, r, e, hq, hb, hx⟩ := fst128_some hf
    have hid : i < d.length := by rw [e]; simp; omega
    rw [hi]
    have hgd : d.getD i 0 = d[i] := by simp [hid]
    rw [hgd] at hU
    have HU := Lib.hid hU
    obtain ⟨b, off, rfl, _⟩ := hr.some_ hid
    have hci := hr.byte hid
    have hx8 := (d[i]).toNat_lt
    clear hi hf hgd hU hb hx hq e
    rcases (show 10 ≤ i ∨ i < 10 by omega) with h10 | h10
    · go_wp2_with fail
      go_ret3
      exact ⟨by rw [← HD.out, HU.out, if_pos (.inl h10)]; rfl, rfl⟩
    rcases (show ((d[i]).toNat = 0 ∧ 0 < i) ∨ ¬ ((d[i]).toNat = 0 ∧ 0 < i) by omega) with h0 | h0
    · have e0 : (((d[i]).toNat : Int) == 0) = true := by simp; omega
      obtain ⟨h01, h02⟩ := h0
      have H0 := Lib.hid h01
      clear h01
      go_wp2_with fail
      go_ret3
      exact ⟨by rw [← HD.out, HU.out, if_pos (.inr (.inl ⟨H0.out, h02⟩))]; rfl, rfl⟩
    rcases (show (i = 9 ∧ 1 < (d[i]).toNat) ∨ ¬ (i = 9 ∧ 1 < (d[i]).toNat) by omega) with h9 | h9
    · obtain ⟨h91, h92⟩ := h9
      have e0 : (((d[i]).toNat : Int) == 0) = false := by simp; omega
      have e9 : ((i : Int) == 9) = true := by simp; omega
      have H9 := Lib.hid h91
      clear h91 h0
      go_wp2_with fail
      go_ret3
      exact ⟨by rw [← HD.out, HU.out, if_pos (.inr (.inr ⟨H9.out, h92⟩))]; rfl, rfl⟩
    have HU2 : Hid (getU d = some (valN (d.take (i + 1)), i + 1)) := Lib.hid (by rw [HU.out, if_neg (by omega)])
    clear HU
    have hcase : ((((d[i]).toNat : Int) == 0) = true ∧ i ≤ 0 ∧ ((i : Int) == 9) = false) ∨ ((((d[i]).toNat : Int) == 0) = false ∧ ((i : Int) == 9) = false) ∨ ((((d[i]).toNat : Int) == 0) = false ∧ ((i : Int) == 9) = true ∧ (d[i]).toNat ≤ 1) := by
      simp only [beq_iff_eq, beq_eq_false_iff_ne, ne_eq]
      omega
    have hi9 : i = 9 → (d[i]).toNat ≤ 1 := by omega
    have HI := Lib.hid hi9
    clear h0 h9 hi9
    rcases hcase with ⟨e0, hi0, e9⟩ | ⟨e0, e9⟩ | ⟨e0, e9, hd1⟩
    all_goals
      go_wp2_with fail
      go_loop [4, 9, 50] (fun v _ j => ∃ t : Nat, t ≤ i + 1 ∧ j = .int .i64 t ∧ v = .int .u64 (valN (d.take t) : Nat)) (fun _ _ j => (i + 1) - (intOf j).toNat)
      case atStart => exact ⟨0, by omega, rfl, rfl⟩
      case round =>
        obtain ⟨t, ht, rfl, rfl⟩ := hrel
        rcases (show t < i + 1 ∨ t = i + 1 by omega) with hlt | rfl
        · have hct := hr.byte (k := t) (by omega)
          go_wp2_with fail
          go_round
          case rel => exact ⟨t + 1, by omega, by go_num, by rw [or_step d t (by omega) (by omega) (fun h => by have h2 := HI.out (by omega); have e : t = i := (by omega); simp only [e]; exact h2)]⟩
          case measure => simp [intOf]; omega
        · go_wp2_with fail
          go_ret3
          exact ⟨by rw [← HD.out, HU2.out]; simp [resU]; omega, rfl⟩

set_option maxRecDepth 100000 in
theorem getUint_any (A : Option Addr) (n c : Nat) (x : Int) (l : List UInt8) (w : World) (h : Rd w w.heap.size 1 A n (bv l)) (hnc : n ≤ c) (hn : n ≤ 1000000000000000000) (hc : c ≤ 9223372036854775807) :
    Calls Try.prog 143 #[.slice A n c, .int .i64 x] w fun e w' => e = .returned (resU (getUAt l x) x) ∧ w = w' := by
  have hl : l.length = n := by have := h.1; simp at this; omega
  by_cases hx : 0 ≤ x ∧ x ≤ n
  · obtain ⟨k, rfl⟩ := Int.eq_ofNat_of_zero_le hx.1
    have e : getUAt l (k : Int) = getU (l.drop k) := by rw [getUAt, if_pos (by omega), Int.toNat_natCast]
    rw [e]
    exact getUint_in A n c k l w h (by omega) hnc hn hc
  · have e : getUAt l x = none := by rw [getUAt, if_neg (by omega)]
    rw [e]
    clear e
    go_enter Try.func143, Try.ntmps143
    go_wp2_with fail
    refine (rest_no A n c x w (by omega)).mono ?_; rintro e w1 ⟨rfl, rfl⟩
    go_wp2_with fail
    go_ret3
    exact ⟨rfl, rfl⟩

theorem xor_i64_0 (a : Nat) (h : a < 9223372036854775808) : bits .xor .i64 (a : Int) 0 = (a : Int) := by
  show IntKind.i64.wrap ((BitVec.ofInt 64 (a : Int) ^^^ BitVec.ofInt 64 0).toNat : Int) = _
  rw [show BitVec.ofInt 64 0 = 0#64 from rfl, BitVec.xor_zero, BitVec.ofInt_natCast, BitVec.toNat_ofNat, Nat.mod_eq_of_lt (by omega), IntKind.wrap_i64]
  omega
theorem xor_i64_1 (a : Nat) (h : a < 9223372036854775808) : bits .xor .i64 (a : Int) (-1) = -(a : Int) - 1 := by
  show IntKind.i64.wrap ((BitVec.ofInt 64 (a : Int) ^^^ BitVec.ofInt 64 (-1)).toNat : Int) = _
  rw [show BitVec.ofInt 64 (-1) = BitVec.allOnes 64 from rfl, BitVec.xor_allOnes, BitVec.toNat_not, BitVec.ofInt_natCast, BitVec.toNat_ofNat, Nat.mod_eq_of_lt (by omega), IntKind.wrap_i64]
  omega
theorem zag_bits (u : Nat) (h : u < 18446744073709551616) : bits .xor .i64 ((u : Int) / 2) (wrap64 (-wrap64 (bits .and .u64 (u : Int) 1))) = zag u := by
  have e1 : bits .and .u64 (u : Int) 1 = ((u % 2 : Nat) : Int) := by
    rw [show (1 : Int) = ((1 : Nat) : Int) from rfl, u64_and_nat _ _ (by omega) (by omega), nat_mask1]
  have e2 : ((u : Int) / 2) = ((u / 2 : Nat) : Int) := by omega
  rw [e1, e2]
  rcases (show u % 2 = 0 ∨ u % 2 = 1 by omega) with h0 | h0
  · rw [h0, show wrap64 (-wrap64 ((0 : Nat) : Int)) = 0 by unfold wrap64; omega, xor_i64_0 _ (by omega), zag, if_neg (by omega)]
  · rw [h0, show wrap64 (-wrap64 ((1 : Nat) : Int)) = -1 by unfold wrap64; omega, xor_i64_1 _ (by omega), zag, if_pos h0]

/-- What GetInt returns. -/
def resI (o : Option (Nat × Nat)) (x : Int) : Value := match o with
  | none => .tuple #[.int .i64 0, .int .i64 0, .bool false]
  | some (n, k) => .tuple #[.int .i64 (zag n), .int .i64 (x + k), .bool true]
theorem getUAt_lt {l : List UInt8} {x : Int} {n k : Nat} (h : getUAt l x = some (n, k)) : n < 18446744073709551616 ∧ 0 ≤ x ∧ x + k ≤ l.length ∧ k ≤ 10 ∧ 0 < k := by
  unfold getUAt at h
  split at h
  · rename_i hx
    obtain ⟨h1, h2, h3, h4⟩ := getU_some h
    have := uintL_len10 n h1
    have := uintL_pos n
    simp at h4
    omega
  · cases h

set_option maxRecDepth 100000 in
set_option maxHeartbeats 1000000 in
theorem getInt_any (A : Option Addr) (n c : Nat) (x : Int) (l : List UInt8) (w : World) (h : Rd w w.heap.size 1 A n (bv l)) (hnc : n ≤ c) (hn : n ≤ 1000000000000000000) (hc : c ≤ 9223372036854775807) :
    Calls Try.prog 101 #[.slice A n c, .int .i64 x] w fun e w' => e = .returned (resI (getUAt l x) x) ∧ w = w' := by
  have hg := getUint_any A n c x l w h hnc hn hc
  cases hu : getUAt l x with
  | none =>
    rw [hu] at hg
    have z0 : bits .xor .i64 0 (wrap64 (-wrap64 (bits .and .u64 0 1))) = 0 := zag_bits 0 (by omega)
    have HG := Lib.hid hg; clear hg hu
    go_enter Try.func101, Try.ntmps101
    go_wp2_with fail
    refine HG.out.mono ?_; rintro e w1 ⟨rfl, rfl⟩
    clear HG
    simp only [resU]
    go_wp2_with fail
    go_ret3
    exact ⟨rfl, rfl⟩
  | some p =>
    obtain ⟨u, k⟩ := p
    have hb := getUAt_lt hu
    have hzb := zag_bounds u hb.1
    rw [hu] at hg
    have HG := Lib.hid hg; clear hg hu
    go_enter Try.func101, Try.ntmps101
    go_wp2_with fail
    refine HG.out.mono ?_; rintro e w1 ⟨rfl, rfl⟩
    clear HG
    simp only [resU]
    go_wp2_with fail
    go_ret3
    exact ⟨by simp only [resI, ← zag_bits u hb.1]; rfl, rfl⟩
end Go.Proofs.Ytpkoijlbbfffiaa.O
