/- The contracts of octets.Size, room, PutUint, PutInt, PutText, PutWord. -/
import Derived.Test.YtpkoijlbbfffiaaLaws
import Derived.Test.YtpkoijlbbfffiaaShelfLen
import Derived.Test.YtpkoijlbbfffiaaOctPlain
import Derived.Outline
namespace Go.Proofs.Ytpkoijlbbfffiaa.O
open Go.RowKit

theorem size_any (n : Nat) (w : World) (h : n < 18446744073709551616) : Calls Try.prog 150 #[.int .u64 n] w fun e w' => e = .returned (.int .i64 (sizeN n)) ∧ w = w' := by
  have hb := Try.bits_Len64 n w (by omega) (by omega)
  rw [Int.toNat_natCast] at hb
  have hl : Lib.bitLen n ≤ 70 := by
    have h1 := sizeN_eq n h
    have h2 := uintL_len10 n h
    simp only [sizeN] at h1
    omega
  have e : Hid (sizeN n = (max (Lib.bitLen n) 1 + 6) / 7) := Lib.hid rfl
  generalize Lib.bitLen n = k at *
  have H := Lib.hid hb; clear hb
  go_enter Try.func150, Try.ntmps150
  go_wp2_with fail
  refine H.out.mono ?_; rintro e w' ⟨rfl, rfl⟩
  clear H
  by_cases hk : 1 < k
  · go_wp2_with fail
    go_ret
    exact ⟨ret_int (by rw [e.out]; omega), rfl⟩
  · go_wp2_with fail
    go_ret
    exact ⟨ret_int (by rw [e.out]; omega), rfl⟩

theorem byteElem : Elem Try.prog 28 5 1 1 (.int .u8 0) := by
  obtain ⟨i0, hi, hz0, hz1, hz2⟩ := info_parts (show (Try.prog.info? 5).map (fun i => (i.zero, i.size, i.bytes)) = some (some (.int .u8 0), 1, 1) by kernel_rfl)
  exact ⟨Try.underlying28, i0, hi, hz0, hz1, hz2, rfl, by omega⟩

/-- It returns a slice of its own that holds the bytes l; nothing that was there has changed. -/
def RetB (l : List UInt8) (w : World) (e : Ending) (w' : World) : Prop :=
  ∃ A n c, e = .returned (.slice A n c) ∧ w'.ownsRow w.heap.size 5 1 (.slice A n c) n (bv l) ∧ Below w.heap.size w w'
theorem own_len {w : World} {base e : Nat} {v : Value} {n : Nat} {l : List UInt8} (h : w.ownsRow base e 1 v n (bv l)) : l.length = n := by have := h.1; simp at this; omega

theorem run_make_bytes (n c : Nat) (hnc : n ≤ c) (hc : c ≤ 140737488355328) (w : World) :
    (Instr.makeSlice 28 (.int .i64 (n : Int)) (.int .i64 (c : Int))).run Try.prog w = .ok (.slice (some ⟨w.heap.size, 0, none⟩) n c) (w.alloc (.cells (madeCells (Value.int .u8 0).cells c) 5)) := by
  obtain ⟨ht, i, hi, hz, hsize, hby, _⟩ := byteElem
  have hr := run_make (P := Try.prog) w _ _ i _ ht hi hz .i64 .i64 n c (by omega) (by omega) (by rw [hby]; omega) (by omega)
  simpa [hsize] using hr

set_option maxHeartbeats 400000 in
theorem room_any (A : Option Addr) (n c m : Nat) (l : List UInt8) (w : World) (h : Rd w w.heap.size 1 A n (bv l)) (hn : n + m ≤ 140737488355328) :
    Calls Try.prog 149 #[.slice A n c, .int .i64 m] w (RetB l w) := by
  have hl : l.length = n := by have := h.1; simp at this; omega
  subst hl
  have hmk := run_make_bytes l.length (l.length + m) (by omega) (by omega)
  have ec : ((l.length + m : Nat) : Int) = (l.length : Int) + m := by omega
  rw [ec] at hmk; clear ec
  go_enter Try.func149, Try.ntmps149
  go_wp2_with (refine wpList_copy_rd rfl (.tmp 13) (.tmp 14) byteElem rfl w.heap.size _ rfl (own_made w _ (Nat.le_refl _) (by unfold maxLen; omega) (by simp [size_madeCells]) (by omega)) rfl (bv l) (h.alloc (Nat.le_refl _) _) (bv_one l) (Nat.le_refl _) ?_; intro w1 hown hg)
  go_ret
  refine ⟨_, _, _, rfl, ?_, below_app ((Below.refl _ _).alloc (Nat.le_refl _) _) (own_made w _ (Nat.le_refl _) (by unfold maxLen; omega) (by simp [size_madeCells]) (by omega)) hg (by simp)⟩
  simpa using hown

theorem bv_push (pre : List UInt8) (x : Int) (k : Nat) (hk : k < 256) (hx : x = (k : Int)) : bv pre ++ [Value.int .u8 x] = bv (pre ++ [UInt8.ofNat k]) := by
  subst hx
  have : (UInt8.ofNat k).toNat = k := by simp [Nat.mod_eq_of_lt hk]
  simp [bv, Nat.mod_eq_of_lt hk]
theorem or128_fin : ∀ k : Fin 256, k.val ||| 128 = k.val % 128 + 128 := by decide +kernel
theorem or128 (m : Nat) : bits .or .u8 ((m : Int) % 256) 128 = ((m % 128 + 128 : Nat) : Int) := by
  have e : ((m : Int) % 256) = ((m % 256 : Nat) : Int) := by omega
  rw [e, show (128 : Int) = ((128 : Nat) : Int) from rfl, u8_or_nat _ _ (by omega) (by omega)]
  have := or128_fin ⟨m % 256, by omega⟩
  simp only at this
  rw [this]
  omega

/-- A row of the call's own with one byte more behind it. -/
theorem retB_push {L pre : List UInt8} {x : Int} {k : Nat} {w w3 : World} {A3 : Option Addr} {c3 : Nat} (hk : k < 256) (hx : x = (k : Int)) (hL : pre ++ [UInt8.ofNat k] = L)
    (h : w3.ownsRow w.heap.size 5 1 (.slice A3 (pre.length + 1) c3) (pre.length + 1) (bv pre ++ [Value.int .u8 x])) (hb : Below w.heap.size w w3) :
    RetB L w (.returned (.slice A3 (pre.length + 1) c3)) w3 := by
  rw [bv_push pre x k hk hx, hL] at h
  have hl : pre.length + 1 = L.length := by rw [← hL]; simp
  rw [hl] at h ⊢
  exact ⟨A3, _, c3, rfl, h, hb⟩

set_option maxRecDepth 100000 in
set_option maxHeartbeats 1000000 in
theorem putUint_any (A : Option Addr) (n c u : Nat) (l : List UInt8) (w : World) (h : Rd w w.heap.size 1 A n (bv l)) (hn : n ≤ 140737488355300) (hu : u < 18446744073709551616) :
    Calls Try.prog 130 #[.slice A n c, .int .u64 u] w (RetB (l ++ uintL u) w) := by
  have hsz := sizeN_eq u hu
  have h10 := uintL_len10 u hu
  have hl : l.length = n := by have := h.1; simp at this; omega
  subst hl
  have HS := Lib.hid hsz
  have hs10 : sizeN u ≤ 10 := by omega
  clear hsz
  go_enter Try.func130, Try.ntmps130
  go_wp2_with fail
  refine (size_any u _ hu).mono ?_; rintro e w' ⟨rfl, rfl⟩
  go_wp2_with fail
  refine (room_any A l.length c (sizeN u) l _ h (by omega)).mono ?_; rintro e w1 ⟨A1, n1, c1, rfl, hown1, hb1⟩
  obtain rfl := own_len hown1
  go_wp2_with fail
  go_loopw [1, 5] (fun v o wr => ∃ (m : Nat) (pre : List UInt8) (A2 : Option Addr) (c2 : Nat), v = .int .u64 m ∧ o = .slice A2 pre.length c2 ∧ m ≤ u ∧ Hid (pre ++ uintL m = l ++ uintL u) ∧ pre.length ≤ l.length + 10 ∧
      wr.ownsRow w.heap.size 5 1 (.slice A2 pre.length c2) pre.length (bv pre) ∧ Below w.heap.size w wr) (fun v _ _ => (intOf v).toNat)
  case atStart => exact ⟨u, l, _, _, rfl, rfl, Nat.le_refl _, Lib.hid rfl, by omega, hown1, hb1⟩
  case round =>
    obtain ⟨m, pre, A2, c2, rfl, rfl, hmu, HP, hpl, hown, hb⟩ := hrel
    have hbs := hb.size
    have hlen : pre.length + (uintL m).length = l.length + (uintL u).length := by rw [← List.length_append, HP.out, List.length_append]
    have hlp := uintL_pos m
    clear hown1 hb1
    by_cases hm : 128 ≤ m
    · have hub := uintL_ge hm
      have hlt : pre.length + 1 ≤ l.length + 10 := by
        have := uintL_pos (m / 128)
        rw [hub] at hlen
        simp at hlen
        omega
      clear hlen hlp
      have HU := Lib.hid hub; clear hub
      go_wp2_with (at_builtin; refine wpList_app rfl (.tmp 14) (.tmp 18) byteElem rfl w.heap.size (bv pre) rfl (hown.alloc _) rfl [_] (Rd.built _ _ _) (by intro u hu; simp at hu; subst hu; rfl) (by unfold maxLen; omega) (by omega) (by simp; omega) ?_; intro A3 c3 w3 hown3 hg3 _)
      go_roundw
      case rel => exact ⟨m / 128, pre ++ [UInt8.ofNat (m % 128 + 128)], A3, c3, by go_num, by simp, by omega, Lib.hid (by rw [← HP.out, HU.out]; simp), by simp; omega, by rw [bv_push pre _ _ (by omega) (or128 m)] at hown3; simpa using hown3, below_app (hb.alloc (by omega) _) (hown.alloc _) hg3 (by simp; omega)⟩
      case measure => simp [intOf]; omega
    · clear hlen hlp
      go_wp2_with (at_builtin; refine wpList_app rfl (.tmp 20) (.tmp 23) byteElem rfl w.heap.size (bv pre) rfl (hown.alloc _) rfl [_] (Rd.built _ _ _) (by intro u hu; simp at hu; subst hu; rfl) (by unfold maxLen; omega) (by omega) (by simp; omega) ?_; intro A3 c3 w3 hown3 hg3 _)
      go_ret
      exact retB_push (k := m) (by omega) rfl (by rw [← HP.out, uintL_lt (by omega)]) hown3 (below_app (hb.alloc (by omega) _) (hown.alloc _) hg3 (by simp; omega))
end Go.Proofs.Ytpkoijlbbfffiaa.O
